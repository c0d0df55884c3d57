/- A region that draws its order: each operation justified by what it waits for; then the last ones, in order. -/
import Derived.Test.YtncblcdhmcmkmaaGvFun
namespace Go.Proofs.Ytncblcdhmcmkmaa
namespace GV
set_option linter.unusedVariables false
set_option linter.unusedSectionVars false

def blkOf : Value → Nat
  | .pointer (some a) => a.block
  | _ => 0

/-- A fresh box among the operations: which, its cells, its type. -/
structure NewBox where
  idx : Nat
  cells : List Value
  ty : TypeId

/-- The operations that one waits for, directly and through others. -/
def deps1 (o : Oper) : List Nat := (o.after.toList.filter fun e => Region.binds .any e).map (·.on)
def markStep (os : List Oper) (S : List Nat) (k : Nat) : List Nat := if S.contains k = true then (match os[k]? with | some o => S ++ deps1 o | none => S) else S
def forced (os : List Oper) (o : Oper) (i : Nat) : List Nat := (List.range i).reverse.foldl (markStep os) (deps1 o)
def ClosedL (os : List Oper) (listed : Array Bool) : Prop := ∀ (k : Nat) o, os[k]? = some o → listed.getD k false = true → ∀ e ∈ o.after, Region.binds .any e = true → listed.getD e.on false = true
theorem deps1_listed {listed : Array Bool} {o : Oper} (h : ∀ e ∈ o.after, Region.binds .any e = true → listed.getD e.on false = true) : ∀ j ∈ deps1 o, listed.getD j false = true := by
  intro j hj
  obtain ⟨e, he, rfl⟩ := List.mem_map.1 hj
  obtain ⟨h1, h2⟩ := List.mem_filter.1 he
  exact h e (by simpa using h1) h2
theorem forced_listed {os : List Oper} {listed : Array Bool} (hc : ClosedL os listed) {o : Oper} {i : Nat} (h : ∀ e ∈ o.after, Region.binds .any e = true → listed.getD e.on false = true) : ∀ j ∈ forced os o i, listed.getD j false = true := by
  have key : ∀ (ks S : List Nat), (∀ j ∈ S, listed.getD j false = true) → ∀ j ∈ ks.foldl (markStep os) S, listed.getD j false = true := by
    intro ks
    induction ks with
    | nil => exact fun S hS => hS
    | cons k ks ih =>
      intro S hS
      refine ih _ fun j hj => ?_
      unfold markStep at hj
      split at hj
      · rename_i hk
        cases ho : os[k]? with
        | none => rw [ho] at hj; exact hS j hj
        | some o' =>
          rw [ho] at hj
          rcases List.mem_append.1 hj with h1 | h1
          · exact hS j h1
          · exact deps1_listed (hc k o' ho (hS k (by simpa using hk))) j h1
      · exact hS j hj
  exact key _ _ (deps1_listed h)
section draw
variable (P : Program) (ρ : Option Nat) (gs : List Oper) (al : List NewBox) (φs : List (Value → RH → Prop)) (l0 : Nat → Value) (R0 : RH) (O : List Frag)

def phi (k : Nat) : Value → RH → Prop := φs.getD k fun _ _ => True
def dstOf (k : Nat) : Option Nat := (gs[k]?).bind (·.dst)
def dsts : List Nat := gs.filterMap (·.dst)
def DepF (l : Nat → Value) (R : RH) : List Edge → Prop
  | [] => True
  | e :: r => (match dstOf gs e.on with | some d => Region.binds .any e = true → phi φs e.on (l d) R | none => True) ∧ DepF l R r
def isNew (k : Nat) : Option NewBox := al.find? fun a => Nat.beq a.idx k
def Stp (k : Nat) (o : Oper) (l : Nat → Value) (R : RH) : Prop :=
  match isNew al k with
  | none => Eff P ρ o l R O fun v R' O' => O' = O ∧ phi φs k v R'
  | some a => o.op = .alloc a.ty ∧ (∀ w, ∃ z, (zeroValue a.ty).run P w = .ok z w ∧ z.cells = a.cells.toArray) ∧ ∀ b R, phi φs k (.pointer (some ⟨b, 0, none⟩)) R
def GStep (k : Nat) (o : Oper) (l : Nat → Value) (R : RH) : Prop :=
  match o.guard with
  | none => Stp P ρ al φs O k o l R
  | some (j, want) => isNew al k = none ∧ ∃ s, dstOf gs j = some s ∧
      ((∃ b, l s = .bool b ∧ (b = want → Stp P ρ al φs O k o l R) ∧ (b ≠ want → phi φs k undef R)) ∨ (l s = undef ∧ phi φs k undef R))
def Agree (l : Nat → Value) : Prop := ∀ s, (dsts gs).contains s = false → l s = l0 s
def Obls : Nat → List Oper → Prop
  | _, [] => True
  | k, o :: r => (∀ l R, RH.le R0 R → Agree gs l0 l → DepF gs φs l R o.after.toList → GStep P ρ gs al φs O k o l R) ∧ Obls (k + 1) r
def boxesOf (l : Nat → Value) : List Frag := al.map fun a => box (blkOf (l ((dstOf gs a.idx).getD 0))) a.cells a.ty
/-- What follows, whatever the values. -/
def EndQ (R : RH) (K : List (Nat × Value) → Prop) : Nat → List Oper → Prop
  | _, [] => K []
  | k, o :: r => ∀ v, phi φs k v R → EndQ R (fun acc => K ((o.dst.getD 0, v) :: acc)) (k + 1) r

def monoOk : Prop := ∀ k v R R', RH.le R R' → phi φs k v R → phi φs k v R'
/-- The closed part: slots, edges, the last operations. -/
def drawOk (n : Nat) (ts : List Oper) : Bool :=
  (gs.all fun o => match o.dst with | some d => Nat.blt d n | none => false) &&
  decide (dsts gs).Nodup &&
  ((gs ++ ts).zipIdx.all fun (o, i) => o.after.all fun e => !Region.binds .any e || Nat.blt e.on i) &&
  ((ts.zipIdx gs.length).all fun (o, i) => o.guard.isNone && (match o.dst with | some d => Nat.blt d n | none => true) && (List.range i).all fun j => (forced (gs ++ ts) o i).contains j) &&
  (al.all fun a => Nat.blt a.idx gs.length) && decide (al.map (·.idx)).Nodup
end draw

theorem obls_get {P : Program} {ρ : Option Nat} {gs : List Oper} {al : List NewBox} {φs : List (Value → RH → Prop)} {l0 : Nat → Value} {R0 : RH} {O : List Frag} : ∀ (os : List Oper) (k : Nat), Obls P ρ gs al φs l0 R0 O k os →
    ∀ (i : Nat) (o : Oper), os[i]? = some o → ∀ l R, RH.le R0 R → Agree gs l0 l → DepF gs φs l R o.after.toList → GStep P ρ gs al φs O (k + i) o l R
  | [], k, _, i, o, h => by simp at h
  | o' :: os, k, hO, i, o, h => by
    cases i with
    | zero => simp at h; subst h; exact hO.1
    | succ i =>
      have := obls_get os (k + 1) hO.2 i o (by simpa using h)
      rwa [show k + 1 + i = k + (i + 1) from by omega] at this

theorem depF_of {gs : List Oper} {φs : List (Value → RH → Prop)} {l : Nat → Value} {R : RH} : ∀ (es : List Edge), (∀ e ∈ es, Region.binds .any e = true → ∀ d, dstOf gs e.on = some d → phi φs e.on (l d) R) → DepF gs φs l R es
  | [], _ => trivial
  | e :: es, h => ⟨by
      cases hd : dstOf gs e.on with
      | none => trivial
      | some d => exact fun hb => h e (List.mem_cons_self ..) hb d hd, depF_of es fun e' he' => h e' (List.mem_cons_of_mem _ he')⟩

theorem endQ_use {φs : List (Value → RH → Prop)} {R : RH} {l : Nat → Value} : ∀ (os : List Oper) (k : Nat) (K : List (Nat × Value) → Prop), EndQ φs R K k os → (∀ i o d, os[i]? = some o → o.dst = some d → phi φs (k + i) (l d) R) →
    (∀ o ∈ os, o.dst.isSome = true) → K (os.map fun o => (o.dst.getD 0, l (o.dst.getD 0)))
  | [], k, K, h, _, _ => h
  | o :: os, k, K, h, hφ, hs => by
    obtain ⟨d, hd⟩ := Option.isSome_iff_exists.1 (hs o (List.mem_cons_self ..))
    have h0 := hφ 0 o d rfl hd
    have := h (l d) h0
    have ih := endQ_use (l := l) os (k + 1) _ this (fun i o' d' hi hd' => by have := hφ (i + 1) o' d' (by simpa using hi) hd'; rwa [show k + (i + 1) = k + 1 + i from by omega] at this) (fun o' ho' => hs o' (List.mem_cons_of_mem _ ho'))
    simpa [hd] using ih
theorem setl_agree {gs : List Oper} {l l0 : Nat → Value} (h : Agree gs l0 l) (hs : ∀ o ∈ gs, o.dst.isSome = true) : l = setl l0 (gs.map fun o => (o.dst.getD 0, l (o.dst.getD 0))) := by
  have key : ∀ (os : List Oper), (∀ o ∈ os, o.dst.isSome = true) → ∀ s, setl l0 (os.map fun o => (o.dst.getD 0, l (o.dst.getD 0))) s = if s ∈ os.filterMap (·.dst) then l s else l0 s := by
    intro os
    induction os with
    | nil => intro _ s; simp [setl]
    | cons o os ih =>
      intro hs s
      obtain ⟨d, hd⟩ := Option.isSome_iff_exists.1 (hs o (List.mem_cons_self ..))
      simp only [List.map_cons, setl, hd, Option.getD_some, List.filterMap_cons]
      unfold upd
      by_cases e : s = d
      · subst e; simp
      · have : Nat.beq s d = false := by
          cases hb : Nat.beq s d
          · rfl
          · exact absurd (Nat.eq_of_beq_eq_true hb) e
        rw [this]
        have := ih (fun o' ho' => hs o' (List.mem_cons_of_mem _ ho')) s
        simp only [cond_false, this, List.mem_cons, e, false_or]
  funext s
  rw [key gs hs s]
  split
  · rfl
  · rename_i hn
    refine h s ?_
    simpa [dsts] using hn

section main
variable {P : Program} {ρ : Option Nat} {n : Nat} {Q : Po} {D : List Nat} {gs ts : List Oper} {al : List NewBox} {φs : List (Value → RH → Prop)} {l0 : Nat → Value} {R0 : RH} {O : List Frag}

/-- The boxes that are there by now. -/
def boxesBy (gs : List Oper) (al : List NewBox) (listed : Array Bool) (l : Nat → Value) : List Frag :=
  (al.filter fun a => listed.getD a.idx false).map fun a => box (blkOf (l ((dstOf gs a.idx).getD 0))) a.cells a.ty

structure J (gs : List Oper) (al : List NewBox) (φs : List (Value → RH → Prop)) (l0 : Nat → Value) (R0 : RH) (O : List Frag) (n : Nat) (D : List Nat) (listed : Array Bool) (a : Act) (w : World) : Prop where
  ex : ∃ l R, Fr n l D a ∧ Holds R (boxesBy gs al listed l ++ O ++ D.map dfrag) w ∧ RH.le R0 R ∧ Agree gs l0 l ∧ (∀ i d, listed.getD i false = true → dstOf gs i = some d → phi φs i (l d) R)

theorem dst_mem {k d : Nat} (h : dstOf gs k = some d) : d ∈ dsts gs := by
  unfold dstOf at h
  cases ho : gs[k]? with
  | none => rw [ho] at h; cases h
  | some o => rw [ho] at h; exact List.mem_filterMap.2 ⟨o, List.mem_of_getElem? ho, h⟩

theorem setIf_getD {listed : Array Bool} {i : Nat} (hi : i < listed.size) (d : Bool) : (listed.setIfInBounds i true).getD i d = true := by
  rw [Array.getD_eq_getD_getElem?, Array.getElem?_setIfInBounds]; simp [hi]

/-- All that is closed, taken apart. -/
theorem drawOk_spec (h : drawOk gs al n ts = true) : (∀ (i : Nat) o, gs[i]? = some o → ∃ d, o.dst = some d ∧ d < n) ∧ (dsts gs).Nodup ∧
    (∀ (i : Nat) o, (gs ++ ts)[i]? = some o → ∀ e ∈ o.after, Region.binds .any e = true → e.on < i) ∧
    (∀ (p : Nat) o, ts[p]? = some o → o.guard = none ∧ (∀ d, o.dst = some d → d < n) ∧ ∀ j, j < gs.length + p → j ∈ forced (gs ++ ts) o (gs.length + p)) ∧
    (∀ a ∈ al, a.idx < gs.length) ∧ (al.map (·.idx)).Nodup := by
  simp only [drawOk, Bool.and_eq_true, List.all_eq_true, decide_eq_true_eq] at h
  obtain ⟨⟨⟨⟨⟨h1, h2⟩, h3⟩, h4⟩, h5⟩, h6⟩ := h
  refine ⟨fun i o ho => ?_, h2, fun i o ho e he hb => ?_, fun p o ho => ?_, fun a ha => by have := h5 a ha; simpa using this, h6⟩
  · have := h1 o (List.mem_of_getElem? ho)
    cases hd : o.dst with
    | none => rw [hd] at this; cases this
    | some d => rw [hd] at this; exact ⟨d, rfl, by simpa using this⟩
  · have hm : (o, i) ∈ (gs ++ ts).zipIdx := by
      rw [List.mem_iff_getElem?]
      exact ⟨i, by rw [List.getElem?_zipIdx, ho]; simp⟩
    have := h3 _ hm
    simp only [Array.all_eq_true_iff_forall_mem] at this
    have := this e he
    simpa [hb] using this
  · have hm : (o, gs.length + p) ∈ ts.zipIdx gs.length := by
      rw [List.mem_iff_getElem?]
      exact ⟨p, by rw [List.getElem?_zipIdx, ho]; simp⟩
    have := h4 _ hm
    simp only [List.mem_range] at this
    obtain ⟨⟨g1, g2⟩, g3⟩ := this
    refine ⟨by simpa using g1, fun d hd => ?_, fun j hj => ?_⟩
    · rw [hd] at g2; simpa using g2
    · have := g3 j hj
      simpa using this

theorem dstOf_inj (hn : (dsts gs).Nodup) {i j d : Nat} (hi : dstOf gs i = some d) (hj : dstOf gs j = some d) : i = j := by
  have key : ∀ (os : List Oper), (os.filterMap (·.dst)).Nodup → ∀ (i j : Nat) (oi oj : Oper), os[i]? = some oi → os[j]? = some oj → oi.dst = some d → oj.dst = some d → i = j := by
    intro os
    induction os with
    | nil => intro _ i j oi oj h; simp at h
    | cons o os ih =>
      intro hnd i j oi oj h1 h2 e1 e2
      cases ho : o.dst with
      | none =>
        rw [List.filterMap_cons, ho] at hnd
        cases i with
        | zero => simp at h1; subst h1; rw [ho] at e1; cases e1
        | succ i => cases j with
          | zero => simp at h2; subst h2; rw [ho] at e2; cases e2
          | succ j => rw [ih hnd i j oi oj (by simpa using h1) (by simpa using h2) e1 e2]
      | some d0 =>
        rw [List.filterMap_cons, ho] at hnd
        obtain ⟨hx, hnd'⟩ := List.nodup_cons.1 hnd
        have hmem : ∀ (k : Nat) (ok : Oper), os[k]? = some ok → ok.dst = some d → d ∈ os.filterMap (·.dst) := fun k ok hk he => List.mem_filterMap.2 ⟨ok, List.mem_of_getElem? hk, he⟩
        cases i with
        | zero => cases j with
          | zero => rfl
          | succ j =>
            simp at h1; subst h1; rw [ho] at e1; cases e1
            exact absurd (hmem j oj (by simpa using h2) e2) hx
        | succ i => cases j with
          | zero =>
            simp at h2; subst h2; rw [ho] at e2; cases e2
            exact absurd (hmem i oi (by simpa using h1) e1) hx
          | succ j => rw [ih hnd' i j oi oj (by simpa using h1) (by simpa using h2) e1 e2]
  unfold dstOf at hi hj
  cases h1 : gs[i]? with
  | none => rw [h1] at hi; cases hi
  | some oi => cases h2 : gs[j]? with
    | none => rw [h2] at hj; cases hj
    | some oj => rw [h1] at hi; rw [h2] at hj; exact key gs hn i j oi oj h1 h2 hi hj

/-- One operation of the first part comes up. -/
theorem draw_step (hok : drawOk gs al n ts = true) (hmono : monoOk φs) (hobl : Obls P ρ gs al φs l0 R0 O 0 gs) {listed : Array Bool} {a : Act} {w : World} {i : Nat} {o : Oper} (hsz : listed.size = gs.length + ts.length) (hi : gs[i]? = some o)
    (hj : J gs al φs l0 R0 O n D listed a w) (hun : listed.getD i true = false) (hdep : ∀ e ∈ o.after, Region.binds .any e = true → listed.getD e.on false = true) :
    wpOpIn (wide ρ) 0 P (gs ++ ts).toArray (lift n Q) i (J gs al φs l0 R0 O n D (listed.setIfInBounds i true)) a w := by
  obtain ⟨s1, s2, s3, s4, s5, s6⟩ := drawOk_spec hok
  obtain ⟨l, R, hf, hh, hle, hag, hφ⟩ := hj.ex
  obtain ⟨d, hd, hdn⟩ := s1 i o hi
  have hlt : i < gs.length := (List.getElem?_eq_some_iff.1 hi).1
  have hio : (gs ++ ts).toArray[i]? = some o := by simp [List.getElem?_append_left hlt, hi]
  have hdi : dstOf gs i = some d := by simp [dstOf, hi, hd]
  have hst := obls_get gs 0 hobl i o hi l R hle hag (depF_of _ fun e he hb d' hd' => hφ e.on d' (hdep e (by simpa using he) hb) hd')
  rw [Nat.zero_add] at hst
  have hother : ∀ (v : Value) (k d' : Nat), k ≠ i → dstOf gs k = some d' → upd l d v d' = l d' := fun v k d' hk hd' => by
    have hne : d' ≠ d := fun e => by subst e; exact hk (dstOf_inj s2 hd' hdi)
    unfold upd
    cases hb : Nat.beq d' d
    · rfl
    · exact absurd (Nat.eq_of_beq_eq_true hb) hne
  have hself : ∀ v, upd l d v d = v := fun v => by simp [upd]
  have hag' : ∀ v, Agree gs l0 (upd l d v) := fun v s hs => by
    have hne : s ≠ d := fun e => by subst e; have := dst_mem hdi; simp [this] at hs
    have : upd l d v s = l s := by
      unfold upd
      cases hb : Nat.beq s d
      · rfl
      · exact absurd (Nat.eq_of_beq_eq_true hb) hne
    rw [this]; exact hag s hs
  have hlist : ∀ k, k ≠ i → (listed.setIfInBounds i true).getD k false = listed.getD k false := fun k hk => getD_set_ne false (Ne.symm hk)
  -- what the step leaves is the relation
  have close : ∀ (v : Value) (R' : RH) (a' : Act) (w' : World), RH.le R R' → phi φs i v R' → Fr n (upd l d v) D a' → Holds R' (boxesBy gs al (listed.setIfInBounds i true) (upd l d v) ++ O ++ D.map dfrag) w' →
      J gs al φs l0 R0 O n D (listed.setIfInBounds i true) a' w' := fun v R' a' w' hle' hp hf' hh' =>
    ⟨upd l d v, R', hf', hh', hle.trans hle', hag' v, fun k d' hk hd' => by
      by_cases e : k = i
      · subst e
        rw [hdi] at hd'; cases hd'
        rw [hself]; exact hp
      · rw [hother v k d' e hd']
        exact hmono _ _ _ _ hle' (hφ k d' (by rw [hlist k e] at hk; exact hk) hd')⟩
  have hboxes : ∀ v, isNew al i = none → boxesBy gs al (listed.setIfInBounds i true) (upd l d v) = boxesBy gs al listed l := fun v hnone => by
    unfold boxesBy
    have hni : ∀ a ∈ al, a.idx ≠ i := fun a ha e => by
      have := List.find?_eq_none.1 hnone a ha
      subst e; simp at this
    have e1 : (al.filter fun a => (listed.setIfInBounds i true).getD a.idx false) = al.filter fun a => listed.getD a.idx false :=
      List.filter_congr fun a ha => hlist a.idx (hni a ha)
    rw [e1]
    refine List.map_congr_left fun a ha => ?_
    have ha' := (List.mem_filter.1 ha).1
    cases hda : dstOf gs a.idx with
    | none =>
      obtain ⟨d2, hd2, _⟩ := s1 a.idx _ (List.getElem?_eq_getElem (s5 a ha'))
      simp [dstOf, List.getElem?_eq_getElem (s5 a ha'), hd2] at hda
    | some d2 => rw [Option.getD_some, hother v a.idx d2 (hni a ha') hda]
  have plain : isNew al i = none → Stp P ρ al φs O i o l R → o.wpIn (wide ρ) 0 P a w (J gs al φs l0 R0 O n D (listed.setIfInBounds i true)) (lift n Q) := fun hnone hs => by
    simp only [Stp, hnone] at hs
    refine wpIn_of_eff (A := boxesBy gs al listed l ++ D.map dfrag) hf (holds_perm hh ?_) hs ?_
    · rw [← List.append_assoc]
      exact List.perm_append_comm.append_right _
    · rintro v R' O' w' hle' hh' ⟨rfl, hp⟩
      refine close v R' _ w' hle' hp (by have := hf.put (d := o.dst) (fun t ht => by rw [hd] at ht; cases ht; exact hdn) v; rw [hd] at this ⊢; exact this) ?_
      rw [hboxes v hnone]
      refine holds_perm hh' ?_
      rw [← List.append_assoc]
      exact List.perm_append_comm.append_right _
  have fresh : ∀ na, isNew al i = some na → Stp P ρ al φs O i o l R → o.wpIn (wide ρ) 0 P a w (J gs al φs l0 R0 O n D (listed.setIfInBounds i true)) (lift n Q) := fun na hsome hs => by
    simp only [Stp, hsome] at hs
    obtain ⟨hop, hz, hp⟩ := hs
    have hmem : na ∈ al := List.mem_of_find?_eq_some hsome
    have hidx : na.idx = i := Nat.eq_of_beq_eq_true (by simpa using List.find?_some hsome)
    have heff : Eff P ρ o l R (boxesBy gs al listed l ++ O) (fun v R' O' => R' = R ∧ ∃ b, v = .pointer (some ⟨b, 0, none⟩) ∧ O' = box b na.cells na.ty :: (boxesBy gs al listed l ++ O)) := by
      obtain ⟨dst, op, ty, pos, after, g⟩ := o
      simp only at hop
      subst hop
      exact eff_alloc hz
    refine wpIn_of_eff (A := D.map dfrag) hf hh heff ?_
    rintro v R' O' w' hle' hh' ⟨rfl, b, rfl, rfl⟩
    refine close _ R' _ w' hle' (hp b R') (by have := hf.put (d := o.dst) (fun t ht => by rw [hd] at ht; cases ht; exact hdn) (.pointer (some ⟨b, 0, none⟩)); rw [hd] at this ⊢; exact this) ?_
    refine holds_perm hh' ?_
    have hnl : listed.getD i false = false := by
      have hsz' : i < listed.size := by omega
      rw [Array.getD_eq_getD_getElem?, Array.getElem?_eq_getElem hsz'] at hun ⊢
      simpa using hun
    -- the new box among the boxes
    have hsplit : ∀ (al' : List NewBox), (al'.map (·.idx)).Nodup → na ∈ al' → (∀ a ∈ al', a ∈ al) →
        (box b na.cells na.ty :: (al'.filter fun a => listed.getD a.idx false).map fun a => box (blkOf (l ((dstOf gs a.idx).getD 0))) a.cells a.ty).Perm
          ((al'.filter fun a => (listed.setIfInBounds i true).getD a.idx false).map fun a => box (blkOf (upd l d (.pointer (some ⟨b, 0, none⟩)) ((dstOf gs a.idx).getD 0))) a.cells a.ty) := by
      intro al'
      induction al' with
      | nil => intro _ h; cases h
      | cons x al' ih =>
        intro hnd hm hsub
        obtain ⟨hx, hnd'⟩ := List.nodup_cons.1 hnd
        have rest : ∀ y ∈ al', y.idx ≠ i → box (blkOf (l ((dstOf gs y.idx).getD 0))) y.cells y.ty = box (blkOf (upd l d (.pointer (some ⟨b, 0, none⟩)) ((dstOf gs y.idx).getD 0))) y.cells y.ty := fun y hy hne => by
          have hy5 := s5 y (hsub y (List.mem_cons_of_mem _ hy))
          obtain ⟨d2, hd2, _⟩ := s1 y.idx _ (List.getElem?_eq_getElem hy5)
          have hda : dstOf gs y.idx = some d2 := by simp [dstOf, List.getElem?_eq_getElem hy5, hd2]
          rw [hda, Option.getD_some, hother _ y.idx d2 hne hda]
        by_cases hxi : x.idx = i
        · have hxna : x = na := by
            rcases List.mem_cons.1 hm with h | h
            · exact h.symm
            · exact absurd (show x.idx ∈ al'.map (·.idx) by rw [hxi, ← hidx]; exact List.mem_map_of_mem h) hx
          subst hxna
          have hrest : ∀ y ∈ al', y.idx ≠ i := fun y hy e => hx (show x.idx ∈ al'.map (·.idx) by rw [hxi, ← e]; exact List.mem_map_of_mem hy)
          rw [List.filter_cons, if_neg (by rw [hxi, hnl]; simp), List.filter_cons, if_pos (by rw [hxi]; exact setIf_getD (by omega) false), List.map_cons]
          rw [hxi, hdi, Option.getD_some, hself]
          refine List.Perm.cons _ ?_
          rw [List.filter_congr (q := fun a => listed.getD a.idx false) (fun y hy => hlist y.idx (hrest y hy))]
          rw [List.map_congr_left (fun y hy => rest y (List.mem_filter.1 hy).1 (hrest y (List.mem_filter.1 hy).1))]
        · have hm' : na ∈ al' := by
            rcases List.mem_cons.1 hm with h | h
            · exact absurd (by rw [← h, hidx]) hxi
            · exact h
          have ih' := ih hnd' hm' (fun a ha => hsub a (List.mem_cons_of_mem _ ha))
          have hy5 := s5 x (hsub x (List.mem_cons_self ..))
          obtain ⟨d2, hd2, _⟩ := s1 x.idx _ (List.getElem?_eq_getElem hy5)
          have hda : dstOf gs x.idx = some d2 := by simp [dstOf, List.getElem?_eq_getElem hy5, hd2]
          rw [List.filter_cons, List.filter_cons, hlist x.idx hxi]
          split
          · rw [List.map_cons, List.map_cons, hda, Option.getD_some, hother _ x.idx d2 hxi hda]
            exact (List.Perm.swap _ _ _).trans (ih'.cons _)
          · exact ih'
    have := hsplit al s6 hmem (fun _ h => h)
    exact ((this.append_right O).append_right _)
  unfold wpOpIn
  rw [hio]
  simp only
  unfold GStep at hst
  cases hg : o.guard with
  | none =>
    rw [hg] at hst
    rw [wanted_none hg, if_pos rfl]
    cases hnew : isNew al i with
    | none => exact plain hnew hst
    | some na => exact fresh na hnew hst
  | some jw =>
    obtain ⟨j, want⟩ := jw
    rw [hg] at hst
    obtain ⟨hnone, s, hsj, hcase⟩ := hst
    have hs' : guardSlot (gs ++ ts).toArray j = some s := by
      unfold dstOf at hsj
      unfold guardSlot
      cases hgj : gs[j]? with
      | none => rw [hgj] at hsj; cases hsj
      | some oj =>
        have hjl : j < gs.length := (List.getElem?_eq_some_iff.1 hgj).1
        rw [hgj] at hsj
        simp [List.getElem?_append_left hjl, hgj]
        simpa using hsj
    have hsn : s < n := by
      unfold dstOf at hsj
      cases hgj : gs[j]? with
      | none => rw [hgj] at hsj; cases hsj
      | some oj =>
        obtain ⟨d3, hd3, hn3⟩ := s1 j oj hgj
        rw [hgj] at hsj
        have e3 : d3 = s := by simpa [hd3] using hsj
        rw [← e3]; exact hn3
    have skip : phi φs i undef R → (∀ f, o.about P w a.eval = some f → (wide ρ).fn f) ∧ J gs al φs l0 R0 O n D (listed.setIfInBounds i true) (a.put o.dst undef) w := fun hno => by
      refine ⟨fun _ _ => trivial, close undef R _ w (RH.le.refl _) hno (by have := hf.put (d := o.dst) (fun t ht => by rw [hd] at ht; cases ht; exact hdn) undef; rw [hd] at this ⊢; exact this) ?_⟩
      rw [hboxes undef hnone]
      exact hh
    rcases hcase with ⟨b, hlb, hyes, hno⟩ | ⟨hlu, hno⟩
    case inr =>
      have hy : yielded (gs ++ ts).toArray a.tmps j = none := by
        unfold yielded
        unfold guardSlot at hs'
        rw [hs']
        have hg := hf.get s
        rw [hlu, Array.getD_eq_getD_getElem?] at hg
        simp only [Option.bind_some]
        cases h : a.tmps[s]? with
        | none => rfl
        | some u => rw [h] at hg; simp at hg; rw [hg]; rfl
      have hw : Region.wanted o (yielded (gs ++ ts).toArray a.tmps) = false := by
        simp only [Region.wanted, hg, hy]; rfl
      rw [hw, if_neg (by simp)]
      exact skip hno
    have hy := yielded_eq hf hs' hsn hlb
    have hw : Region.wanted o (yielded (gs ++ ts).toArray a.tmps) = (b == want) := by
      simp only [Region.wanted, hg, hy]
      cases b <;> cases want <;> rfl
    rw [hw]
    by_cases hb : b = want
    · rw [if_pos (by simp [hb])]
      exact plain hnone (hyes hb)
    · rw [if_neg (by simpa using hb)]
      exact skip (hno hb)

/-- Either the first part is under way, or it is done and so many of the last ones. -/
inductive Ph (P : Program) (ρ : Option Nat) (n : Nat) (Q : Po) (D : List Nat) (gs ts : List Oper) (al : List NewBox) (φs : List (Value → RH → Prop)) (l0 : Nat → Value) (R0 : RH) (O : List Frag) (listed : Array Bool) (a : Act) (w : World) : Prop where
  | first (hj : J gs al φs l0 R0 O n D listed a w) (hn : ∀ k, gs.length ≤ k → listed.getD k false = false) (hcl : ClosedL (gs ++ ts) listed)
  | last (p : Nat) (hp : p ≤ ts.length) (hall : ∀ k, k < gs.length + p → listed.getD k false = true) (hn : ∀ k, gs.length + p ≤ k → listed.getD k false = false)
      (h : wlo (wide ρ) 0 P (gs ++ ts).toArray (lift n Q) (ts.drop p) a w)

theorem ph_turn (hok : drawOk gs al n ts = true) (hend : ∀ R, RH.le R0 R → EndQ φs R (fun acc => wo P ρ n (gs ++ ts).toArray Q ts (setl l0 acc) D R (boxesOf gs al (setl l0 acc) ++ O)) 0 gs) {listed : Array Bool} {a : Act} {w : World}
    (hj : J gs al φs l0 R0 O n D listed a w) (hn : ∀ k, gs.length ≤ k → listed.getD k false = false) (hall : ∀ k, k < gs.length → listed.getD k false = true) : wlo (wide ρ) 0 P (gs ++ ts).toArray (lift n Q) ts a w := by
  obtain ⟨s1, s2, s3, s4, s5, s6⟩ := drawOk_spec hok
  obtain ⟨l, R, hf, hh, hle, hag, hφ⟩ := hj.ex
  have hs : ∀ o ∈ gs, o.dst.isSome = true := fun o ho => by
    obtain ⟨i, hi⟩ := List.getElem?_of_mem ho
    obtain ⟨d, hd, _⟩ := s1 i o hi
    simp [hd]
  have h1 := endQ_use (φs := φs) (R := R) (l := l) gs 0 _ (hend R hle) (fun i o d hi hd => by
    rw [Nat.zero_add]
    exact hφ i d (hall i (List.getElem?_eq_some_iff.1 hi).1) (by simp [dstOf, hi, hd])) hs
  rw [← setl_agree hag hs] at h1
  have hbx : boxesBy gs al listed l = boxesOf gs al l := by
    unfold boxesBy boxesOf
    rw [List.filter_eq_self.2 (fun a ha => hall a.idx (s5 a ha))]
  rw [hbx] at hh
  exact h1 a w hf hh

theorem any_of_ph (hok : drawOk gs al n ts = true) (hmono : monoOk φs) (hobl : Obls P ρ gs al φs l0 R0 O 0 gs)
    (hend : ∀ R, RH.le R0 R → EndQ φs R (fun acc => wo P ρ n (gs ++ ts).toArray Q ts (setl l0 acc) D R (boxesOf gs al (setl l0 acc) ++ O)) 0 gs) :
    ∀ (fuel : Nat) (listed : Array Bool) (a : Act) (w : World), listed.size = gs.length + ts.length → ((List.range (gs.length + ts.length)).filter fun i => !listed.getD i true).length ≤ fuel →
      Ph P ρ n Q D gs ts al φs l0 R0 O listed a w → wpAnyIn (wide ρ) 0 P .any (gs ++ ts).toArray (lift n Q) fuel listed a w := by
  obtain ⟨s1, s2, s3, s4, s5, s6⟩ := drawOk_spec hok
  -- an index that is not listed yet: some operation is ready
  have hready : ∀ (listed : Array Bool), listed.size = gs.length + ts.length → Region.ready .any (gs ++ ts).toArray listed = [] → ∀ k, k < gs.length + ts.length → listed.getD k false = true := by
    intro listed hsz hr k
    induction k using Nat.strongRecOn with
    | _ k ih =>
      intro hk
      have hk' : k < (gs ++ ts).length := by simpa using hk
      have ho : (gs ++ ts).toArray[k]? = some ((gs ++ ts)[k]'hk') := by simp [hk]
      cases hb : listed.getD k false with
      | true => rfl
      | false =>
        have : k ∈ Region.ready .any (gs ++ ts).toArray listed := mem_ready.2 ⟨by
          rw [Array.getD_eq_getD_getElem?, Array.getElem?_eq_getElem (by omega)] at hb ⊢
          exact hb, _, ho, fun e he hbind => by
            have hlt := s3 k _ (by simp [hk]) e he hbind
            exact ih e.on hlt (by omega)⟩
        rw [hr] at this
        cases this
  have hdone : ∀ (listed : Array Bool) (a : Act) (w : World), listed.size = gs.length + ts.length → Ph P ρ n Q D gs ts al φs l0 R0 O listed a w → Region.ready .any (gs ++ ts).toArray listed = [] → lift n Q .normal a w := by
    intro listed a w hsz hp hr
    have hall := hready listed hsz hr
    have key : ∀ p, p ≤ ts.length → (∀ k, gs.length + p ≤ k → listed.getD k false = false) → wlo (wide ρ) 0 P (gs ++ ts).toArray (lift n Q) (ts.drop p) a w → lift n Q .normal a w := fun p hp hn h => by
      have : p = ts.length := by
        rcases Nat.lt_or_ge p ts.length with hlt | hge
        · have h1 := hall (gs.length + p) (by omega)
          rw [hn _ (Nat.le_refl _)] at h1; cases h1
        · omega
      subst this
      rw [List.drop_length] at h
      exact h
    cases hp with
    | first hj hn hcl =>
      exact key 0 (Nat.zero_le _) (by simpa using hn) (ph_turn hok hend hj hn (fun k hk => hall k (by omega)))
    | last p hp ha hn h => exact key p hp hn h
  -- one step
  have hstep : ∀ (listed : Array Bool) (a : Act) (w : World) (i : Nat), listed.size = gs.length + ts.length → Ph P ρ n Q D gs ts al φs l0 R0 O listed a w → i ∈ Region.ready .any (gs ++ ts).toArray listed →
      wpOpIn (wide ρ) 0 P (gs ++ ts).toArray (lift n Q) i (Ph P ρ n Q D gs ts al φs l0 R0 O (listed.setIfInBounds i true)) a w := by
    intro listed a w i hsz hp hi
    obtain ⟨hun, o, ho, hdep⟩ := mem_ready.1 hi
    have hil : i < gs.length + ts.length := by have := (Array.getElem?_eq_some_iff.1 ho).1; simpa using this
    have hun' : listed.getD i false = false := by
      rw [Array.getD_eq_getD_getElem?, Array.getElem?_eq_getElem (by omega)] at hun ⊢
      simpa using hun
    have hlist : ∀ k, k ≠ i → (listed.setIfInBounds i true).getD k false = listed.getD k false := fun k hk => getD_set_ne false (Ne.symm hk)
    -- the last part's step
    have laststep : ∀ p, p ≤ ts.length → ClosedL (gs ++ ts) listed → (∀ k, k < gs.length + p → listed.getD k false = true) → (∀ k, gs.length + p ≤ k → listed.getD k false = false) → wlo (wide ρ) 0 P (gs ++ ts).toArray (lift n Q) (ts.drop p) a w →
        wpOpIn (wide ρ) 0 P (gs ++ ts).toArray (lift n Q) i (Ph P ρ n Q D gs ts al φs l0 R0 O (listed.setIfInBounds i true)) a w := by
      intro p hp hcl hall hn h
      have hge : gs.length + p ≤ i := by
        rcases Nat.lt_or_ge i (gs.length + p) with h' | h'
        · rw [hall i h'] at hun'; cases hun'
        · exact h'
      have hot : ts[i - gs.length]? = some o := by
        have : (gs ++ ts)[i]? = some o := by simpa using ho
        rwa [List.getElem?_append_right (by omega)] at this
      obtain ⟨hgn, _, hedges⟩ := s4 (i - gs.length) o hot
      have hip : i = gs.length + p := by
        rcases Nat.lt_or_ge (gs.length + p) i with h' | h'
        · have := forced_listed hcl hdep _ (hedges (gs.length + p) (by omega))
          rw [hn _ (Nat.le_refl _)] at this; cases this
        · omega
      subst hip
      rw [Nat.add_sub_cancel_left] at hot
      have hlt : p < ts.length := (List.getElem?_eq_some_iff.1 hot).1
      have hdrop : ts.drop p = o :: ts.drop (p + 1) := by
        rw [List.drop_eq_getElem_cons hlt]
        congr 1
        exact (List.getElem?_eq_some_iff.1 hot).2
      rw [hdrop] at h
      simp only [wlo, wanted_none hgn, if_true] at h
      unfold wpOpIn
      rw [ho]
      simp only [wanted_none hgn, if_true]
      refine Oper.wpIn_mono (fun a' w' h' => .last (p + 1) (by omega) (fun k hk => ?_) (fun k hk => ?_) h') h
      · by_cases e : k = gs.length + p
        · subst e; exact setIf_getD (by omega) false
        · rw [hlist k e]; exact hall k (by omega)
      · rw [hlist k (by omega)]; exact hn k (by omega)
    cases hp with
    | last p hp hall hn h =>
      refine laststep p hp (fun k o' ho' hk e he hb => ?_) hall hn h
      have hkl : k < gs.length + p := by
        rcases Nat.lt_or_ge k (gs.length + p) with h' | h'
        · exact h'
        · rw [hn k h'] at hk; cases hk
      exact hall e.on (Nat.lt_trans (s3 k o' ho' e he hb) hkl)
    | first hj hn hcl =>
      rcases Nat.lt_or_ge i gs.length with hlt | hge
      · have hgi : gs[i]? = some o := by
          have : (gs ++ ts)[i]? = some o := by simpa using ho
          rwa [List.getElem?_append_left hlt] at this
        refine wpOpIn_mono (fun a' w' h' => .first h' (fun k hk => by rw [hlist k (by omega)]; exact hn k hk) (fun k o' ho' hk e he hb => ?_)) (draw_step hok hmono hobl hsz hgi hj hun hdep)
        have hup : ∀ j, listed.getD j false = true → (listed.setIfInBounds i true).getD j false = true := fun j hj' => by
          by_cases e' : j = i
          · subst e'; rw [hj'] at hun'; cases hun'
          · rw [hlist j e']; exact hj'
        by_cases ek : k = i
        · subst ek
          have : o' = o := by
            have h2 : (gs ++ ts)[k]? = some o := by simpa using ho
            rw [h2] at ho'; exact (Option.some.inj ho').symm
          subst this
          exact hup _ (hdep e he hb)
        · rw [hlist k ek] at hk
          exact hup _ (hcl k o' ho' hk e he hb)
      · have hot : ts[i - gs.length]? = some o := by
          have : (gs ++ ts)[i]? = some o := by simpa using ho
          rwa [List.getElem?_append_right (by omega)] at this
        obtain ⟨_, _, hedges⟩ := s4 (i - gs.length) o hot
        have hall : ∀ k, k < gs.length → listed.getD k false = true := fun k hk => forced_listed hcl hdep _ (hedges k (by omega))
        exact laststep 0 (Nat.zero_le _) hcl (by simpa using hall) (by simpa using hn) (ph_turn hok hend hj hn hall)
  intro fuel
  induction fuel with
  | zero =>
    intro listed a w hsz hf hp
    have hr : Region.ready .any (gs ++ ts).toArray listed = [] := by
      cases hr : Region.ready .any (gs ++ ts).toArray listed with
      | nil => rfl
      | cons x xs =>
        have hx : x ∈ Region.ready .any (gs ++ ts).toArray listed := by rw [hr]; exact List.mem_cons_self ..
        obtain ⟨hun, o, ho, _⟩ := mem_ready.1 hx
        have : x ∈ ((List.range (gs.length + ts.length)).filter fun i => !listed.getD i true) := by
          rw [List.mem_filter, List.mem_range]
          exact ⟨by have := (Array.getElem?_eq_some_iff.1 ho).1; simpa using this, by rw [hun]; rfl⟩
        have := List.length_pos_of_mem this
        omega
    exact ⟨hr, hdone listed a w hsz hp hr⟩
  | succ fuel ih =>
    intro listed a w hsz hf hp
    refine ⟨hdone listed a w hsz hp, fun i hi => ?_⟩
    refine wpOpIn_mono (fun a' w' h' => ih _ a' w' (by simpa using hsz) ?_ h') (hstep listed a w i hsz hp hi)
    obtain ⟨hun, o, ho, _⟩ := mem_ready.1 hi
    have hil : i < gs.length + ts.length := by have := (Array.getElem?_eq_some_iff.1 ho).1; simpa using this
    have hsub : ((List.range (gs.length + ts.length)).filter fun k => !(listed.setIfInBounds i true).getD k true) = (((List.range (gs.length + ts.length)).filter fun k => !listed.getD k true).filter fun k => k != i) := by
      rw [List.filter_filter]
      refine List.filter_congr fun k _ => ?_
      by_cases e : k = i
      · subst e; rw [setIf_getD (by omega)]; simp
      · rw [getD_set_ne true (Ne.symm e)]; simp [e]
    rw [hsub]
    have hmem : i ∈ ((List.range (gs.length + ts.length)).filter fun k => !listed.getD k true) := by
      rw [List.mem_filter, List.mem_range]
      exact ⟨hil, by rw [hun]; rfl⟩
    have : (((List.range (gs.length + ts.length)).filter fun k => !listed.getD k true).filter fun k => k != i).length < ((List.range (gs.length + ts.length)).filter fun k => !listed.getD k true).length := List.length_filter_lt_length_iff_exists.2 ⟨i, hmem, show ¬ ((i != i) = true) by simp⟩
    omega

/-- **A region that draws its order.** -/
theorem wg_draw {id : Nat} (hm : P.follows .mixedOrders = true) (hok : drawOk gs al n ts = true) (hmono : monoOk φs) (hobl : Obls P ρ gs al φs l0 R0 O 0 gs)
    (hend : ∀ R, RH.le R0 R → EndQ φs R (fun acc => wo P ρ n (gs ++ ts).toArray Q ts (setl l0 acc) D R (boxesOf gs al (setl l0 acc) ++ O)) 0 gs) : wg P ρ n (.region id (gs ++ ts).toArray true) Q l0 D R0 O := by
  intro a w hf hh
  refine wpIn_region_any hm ?_
  have hno : ∀ (k : Nat), (Array.replicate (gs ++ ts).toArray.size false).getD k false = false := fun k => by
    rw [Array.getD_eq_getD_getElem?, Array.getElem?_replicate]; split <;> rfl
  refine any_of_ph hok hmono hobl hend _ _ a _ (by simp) (by
    refine Nat.le_trans (List.length_filter_le _ _) ?_
    simp) (.first ⟨l0, R0, hf, ?_, RH.le.refl _, fun _ _ => rfl, fun i d hi => by rw [hno] at hi; cases hi⟩ (fun k _ => hno k) (fun k o' _ hk => by rw [hno] at hk; cases hk))
  have : boxesBy gs al (Array.replicate (gs ++ ts).toArray.size false) l0 = [] := by
    unfold boxesBy
    rw [List.filter_eq_nil_iff.2 (fun a _ => by rw [hno]; simp)]
    rfl
  rw [this, List.nil_append]
  exact holds_drew hh

theorem take_drop {os : List Oper} (m : Nat) : os.take m ++ os.drop m = os := List.take_append_drop m os
theorem wg_drawn {id : Nat} {os : List Oper} (m : Nat) (al : List NewBox) (φs : List (Value → RH → Prop)) (hm : P.follows .mixedOrders = true) (hok : drawOk (os.take m) al n (os.drop m) = true) (hmono : monoOk φs)
    (hobl : Obls P ρ (os.take m) al φs l0 R0 O 0 (os.take m))
    (hend : ∀ R, RH.le R0 R → EndQ φs R (fun acc => wo P ρ n os.toArray Q (os.drop m) (setl l0 acc) D R (boxesOf (os.take m) al (setl l0 acc) ++ O)) 0 (os.take m)) : wg P ρ n (.region id os.toArray true) Q l0 D R0 O := by
  have := wg_draw (P := P) (ρ := ρ) (n := n) (Q := Q) (D := D) (gs := os.take m) (ts := os.drop m) (al := al) (φs := φs) (l0 := l0) (R0 := R0) (O := O) (id := id) hm hok hmono hobl (by rw [take_drop]; exact hend)
  rwa [take_drop] at this
theorem wg_guard0 {id : Nat} (hlin : (Region.linearise .any (gs ++ ts).toArray 0 == List.range (gs ++ ts).toArray.size) = true) (hok : drawOk gs al n ts = true) (hmono : monoOk φs) (hobl : Obls P ρ gs al φs l0 R0 O 0 gs)
    (hend : ∀ R, RH.le R0 R → EndQ φs R (fun acc => wo P ρ n (gs ++ ts).toArray Q ts (setl l0 acc) D R (boxesOf gs al (setl l0 acc) ++ O)) 0 gs) : wg P ρ n (.region id (gs ++ ts).toArray false) Q l0 D R0 O := by
  intro a w hf hh
  refine wpIn_region ?_
  rw [← eq_of_beq hlin]
  refine wpAnyIn_sound _ _ _ a w ?_
  have hno : ∀ (k : Nat), (Array.replicate (gs ++ ts).toArray.size false).getD k false = false := fun k => by
    rw [Array.getD_eq_getD_getElem?, Array.getElem?_replicate]; split <;> rfl
  refine any_of_ph hok hmono hobl hend _ _ a _ (by simp) (by
    refine Nat.le_trans (List.length_filter_le _ _) ?_
    simp) (.first ⟨l0, R0, hf, ?_, RH.le.refl _, fun _ _ => rfl, fun i d hi => by rw [hno] at hi; cases hi⟩ (fun k _ => hno k) (fun k o' _ hk => by rw [hno] at hk; cases hk))
  have : boxesBy gs al (Array.replicate (gs ++ ts).toArray.size false) l0 = [] := by
    unfold boxesBy
    rw [List.filter_eq_nil_iff.2 (fun a _ => by rw [hno]; simp)]
    rfl
  rw [this, List.nil_append]
  exact hh
/-- The same where the text's order is kept: for a region with guards. -/
theorem wg_guarded {id : Nat} {os : List Oper} (m : Nat) (al : List NewBox) (φs : List (Value → RH → Prop)) (hlin : (Region.linearise .any os.toArray 0 == List.range os.toArray.size) = true) (hok : drawOk (os.take m) al n (os.drop m) = true) (hmono : monoOk φs)
    (hobl : Obls P ρ (os.take m) al φs l0 R0 O 0 (os.take m))
    (hend : ∀ R, RH.le R0 R → EndQ φs R (fun acc => wo P ρ n os.toArray Q (os.drop m) (setl l0 acc) D R (boxesOf (os.take m) al (setl l0 acc) ++ O)) 0 (os.take m)) : wg P ρ n (.region id os.toArray false) Q l0 D R0 O := by
  have := wg_guard0 (P := P) (ρ := ρ) (n := n) (Q := Q) (D := D) (gs := os.take m) (ts := os.drop m) (al := al) (φs := φs) (l0 := l0) (R0 := R0) (O := O) (id := id) (by rw [take_drop]; exact hlin) hok hmono hobl (by rw [take_drop]; exact hend)
  rwa [take_drop] at this

/-! ### What is said of an operation's value -/
def phX (v0 : Value) : Value → RH → Prop := fun v _ => v = v0
def phR {α : Type} (T : Ty α) (x : α) : Value → RH → Prop := fun v R => VRep T R v x
def phP {α : Type} (T : Ty α) (x : α) : Value → RH → Prop := fun v R => PRep T R v x
def phB : Value → RH → Prop := fun v _ => ∃ b, v = .pointer (some ⟨b, 0, none⟩)
/-- Said where the operation is carried out. -/
def phG (G : Bool) (φ : Value → RH → Prop) : Value → RH → Prop := fun v R => (G = true → φ v R) ∧ (G = false → v = undef)
def Mono (φ : Value → RH → Prop) : Prop := ∀ v R R', RH.le R R' → φ v R → φ v R'
theorem mono_x {v : Value} : Mono (phX v) := fun _ _ _ _ h => h
theorem mono_r {α : Type} {T : Ty α} {x : α} : Mono (phR T x) := fun _ _ _ hle h => VRep.mono h hle
theorem mono_p {α : Type} {T : Ty α} {x : α} : Mono (phP T x) := fun _ _ _ hle h => PRep.mono h hle
theorem mono_b : Mono phB := fun _ _ _ _ h => h
theorem mono_g {G : Bool} {φ : Value → RH → Prop} (h : Mono φ) : Mono (phG G φ) := fun v R R' hle k => ⟨fun e => h v R R' hle (k.1 e), k.2⟩
def MonoL : List (Value → RH → Prop) → Prop
  | [] => True
  | φ :: r => Mono φ ∧ MonoL r
theorem monoOk_of : ∀ {φs : List (Value → RH → Prop)}, MonoL φs → monoOk φs
  | [], _ => fun k v R R' _ _ => by simp [phi]
  | φ :: r, h => fun k v R R' hle hp => by
    cases k with
    | zero => exact h.1 v R R' hle hp
    | succ k => exact monoOk_of (φs := r) h.2 k v R R' hle hp
theorem gstep_guard {gs : List Oper} {al : List NewBox} {φs : List (Value → RH → Prop)} {k j s : Nat} {o : Oper} {l : Nat → Value} {R : RH} {Gj Bj want : Bool} {φ : Value → RH → Prop} (hg : o.guard = some (j, want)) (hnew : isNew al k = none) (hs : dstOf gs j = some s)
    (hj : phG Gj (phX (.bool Bj)) (l s) R) (hphi : phi φs k = phG (Gj && (Bj == want)) φ) (hyes : Gj = true → Bj = want → Eff P ρ o l R O fun v R' O' => O' = O ∧ φ v R') : GStep P ρ gs al φs O k o l R := by
  unfold GStep
  rw [hg]
  refine ⟨hnew, s, hs, ?_⟩
  cases Gj with
  | false => exact .inr ⟨hj.2 rfl, by rw [hphi]; exact ⟨fun h => by (cases h), fun _ => rfl⟩⟩
  | true =>
    refine .inl ⟨Bj, hj.1 rfl, fun hb => ?_, fun hb => ?_⟩
    · simp only [Stp, hnew]
      refine (hyes rfl hb).mono fun v R' O' _ h => ⟨h.1, ?_⟩
      rw [hphi, hb]
      exact ⟨fun _ => h.2, fun h => by simp at h⟩
    · rw [hphi]
      have : (Bj == want) = false := by simpa using hb
      rw [this]
      exact ⟨fun h => by simp at h, fun _ => rfl⟩
/-- A guard that is always come to. -/
theorem gtrue {Bj : Bool} {v : Value} {R : RH} (h : v = .bool Bj) : phG true (phX (.bool Bj)) v R := ⟨fun _ => h, fun h => by (cases h)⟩
theorem gstep_plain {gs : List Oper} {al : List NewBox} {φs : List (Value → RH → Prop)} {k : Nat} {o : Oper} {l : Nat → Value} {R : RH} {φ : Value → RH → Prop} (hg : o.guard = none) (hnew : isNew al k = none) (hphi : phi φs k = φ)
    (h : Eff P ρ o l R O fun v R' O' => O' = O ∧ φ v R') : GStep P ρ gs al φs O k o l R := by
  unfold GStep
  rw [hg]
  simp only [Stp, hnew]
  rw [hphi]
  exact h
theorem gstep_new {gs : List Oper} {al : List NewBox} {φs : List (Value → RH → Prop)} {k : Nat} {o : Oper} {l : Nat → Value} {R : RH} {na : NewBox} (hg : o.guard = none) (hnew : isNew al k = some na) (hop : o.op = .alloc na.ty) (hphi : phi φs k = phB)
    (hz : ∀ w, ∃ z, (zeroValue na.ty).run P w = .ok z w ∧ z.cells = na.cells.toArray) : GStep P ρ gs al φs O k o l R := by
  unfold GStep
  rw [hg]
  simp only [Stp, hnew]
  rw [hphi]
  exact ⟨hop, hz, fun b R => ⟨b, rfl⟩⟩
end main
end GV
end Go.Proofs.Ytncblcdhmcmkmaa
