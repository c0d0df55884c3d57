
import Derived.Test.YtplgbkaollfmkaaGvFun
set_option linter.unusedVariables false
set_option linter.unusedSimpArgs false
namespace Go.Proofs.Ytplgbkaollfmkaa
namespace GV
def z6j : Value → Nat
  | .pointer (some a) => a.block
  | _ => 0
structure NewBox where
  idx : Nat
  cells : List Value
  ty : TypeId
def znz (o : Oper) : List Nat := (o.after.toList.filter fun e => Region.binds .any e).map (·.on)
def zcq (os : List Oper) (S : List Nat) (k : Nat) : List Nat := if S.contains k = true then (match os[k]? with | some o => S ++ znz o | none => S) else S
def forced (os : List Oper) (o : Oper) (i : Nat) : List Nat := (List.range i).reverse.foldl (zcq os) (znz o)
def z5s (os : List Oper) (listed : Array Bool) : Prop := ∀ (k : Nat) o, os[k]? = some o → listed.getD k false = true → ∀ e ∈ o.after, Region.binds .any e = true → listed.getD e.on false = true
theorem z8z {listed : Array Bool} {o : Oper} (h : ∀ e ∈ o.after, Region.binds .any e = true → listed.getD e.on false = true) : ∀ j ∈ znz o, listed.getD j false = true := by
  intro j hj
  obtain ⟨e, he, rfl⟩ := List.mem_map.1 hj
  obtain ⟨h1, h2⟩ := List.mem_filter.1 he
  exact h e (by simpa using h1) h2
theorem z02 {os : List Oper} {listed : Array Bool} (hc : z5s os listed) {o : Oper} {i : Nat} (h : ∀ e ∈ o.after, Region.binds .any e = true → listed.getD e.on false = true) : ∀ j ∈ forced os o i, listed.getD j false = true := by
  have key : ∀ (ks S : List Nat), (∀ j ∈ S, listed.getD j false = true) → ∀ j ∈ ks.foldl (zcq os) S, listed.getD j false = true := by
    intro ks
    induction ks with
    | nil => exact fun S hS => hS
    | cons k ks ih =>
      intro S hS
      refine ih _ fun j hj => ?_
      unfold zcq at hj
      split at hj
      · rename_i hk
        cases ho : os[k]? with
        | none => rw [ho] at hj; exact hS j hj
        | some o' =>
          rw [ho] at hj
          rcases List.mem_append.1 hj with h1 | h1
          · exact hS j h1
          · exact z8z (hc k o' ho (hS k (by simpa using hk))) j h1
      · exact hS j hj
  exact key _ _ (z8z h)
section draw
variable (P : Program) (ρ : Option Nat) (gs : List Oper) (al : List NewBox) (φs : List (Value → RH → Prop)) (l0 : Nat → Value) (R0 : RH) (O : List Frag)
def phi (k : Nat) : Value → RH → Prop := φs.getD k fun _ _ => True
def vz (k : Nat) : Option Nat := (gs[k]?).bind (·.dst)
def z9r : List Nat := gs.filterMap (·.dst)
def zqe (l : Nat → Value) (R : RH) : List Edge → Prop
  | [] => True
  | e :: r => (match vz gs e.on with | some d => Region.binds .any e = true → phi φs e.on (l d) R | none => True) ∧ zqe l R r
def zb1 (k : Nat) : Option NewBox := al.find? fun a => Nat.beq a.idx k
def Stp (k : Nat) (o : Oper) (l : Nat → Value) (R : RH) : Prop :=
  match zb1 al k with
  | none => Eff P ρ o l R O fun v R' O' => O' = O ∧ phi φs k v R'
  | some a => o.op = .alloc a.ty ∧ (∀ w, ∃ z, (zeroValue a.ty).run P w = .ok z w ∧ z.cells = a.cells.toArray) ∧ ∀ b R, phi φs k (.pointer (some ⟨b, 0, none⟩)) R
def GStep (k : Nat) (o : Oper) (l : Nat → Value) (R : RH) : Prop :=
  match o.guard with
  | none => Stp P ρ al φs O k o l R
  | some (j, want) => zb1 al k = none ∧ ∃ s, vz gs j = some s ∧
      ((∃ b, l s = .bool b ∧ (b = want → Stp P ρ al φs O k o l R) ∧ (b ≠ want → phi φs k undef R)) ∨ (l s = undef ∧ phi φs k undef R))
def Agree (l : Nat → Value) : Prop := ∀ s, (z9r gs).contains s = false → l s = l0 s
def zg9 : Nat → List Oper → Prop
  | _, [] => True
  | k, o :: r => (∀ l R, RH.le R0 R → Agree gs l0 l → zqe gs φs l R o.after.toList → GStep P ρ gs al φs O k o l R) ∧ zg9 (k + 1) r
def z4b (l : Nat → Value) : List Frag := al.map fun a => box (z6j (l ((vz gs a.idx).getD 0))) a.cells a.ty
def zgm (R : RH) (K : List (Nat × Value) → Prop) : Nat → List Oper → Prop
  | _, [] => K []
  | k, o :: r => ∀ v, phi φs k v R → zgm R (fun acc => K ((o.dst.getD 0, v) :: acc)) (k + 1) r
def z8h : Prop := ∀ k v R R', RH.le R R' → phi φs k v R → phi φs k v R'
def z5m (n : Nat) (ts : List Oper) : Bool :=
  (gs.all fun o => match o.dst with | some d => Nat.blt d n | none => false) &&
  decide (z9r gs).Nodup &&
  ((gs ++ ts).zipIdx.all fun (o, i) => o.after.all fun e => !Region.binds .any e || Nat.blt e.on i) &&
  ((ts.zipIdx gs.length).all fun (o, i) => o.guard.isNone && (match o.dst with | some d => Nat.blt d n | none => true) && (List.range i).all fun j => (forced (gs ++ ts) o i).contains j) &&
  (al.all fun a => Nat.blt a.idx gs.length) && decide (al.map (·.idx)).Nodup
end draw
theorem zgy {P : Program} {ρ : Option Nat} {gs : List Oper} {al : List NewBox} {φs : List (Value → RH → Prop)} {l0 : Nat → Value} {R0 : RH} {O : List Frag} : ∀ (os : List Oper) (k : Nat), zg9 P ρ gs al φs l0 R0 O k os →
    ∀ (i : Nat) (o : Oper), os[i]? = some o → ∀ l R, RH.le R0 R → Agree gs l0 l → zqe gs φs l R o.after.toList → GStep P ρ gs al φs O (k + i) o l R
  | [], k, _, i, o, h => by simp at h
  | o' :: os, k, hO, i, o, h => by
    cases i with
    | zero => simp at h; subst h; exact hO.1
    | succ i =>
      have := zgy os (k + 1) hO.2 i o (by simpa using h)
      rwa [show k + 1 + i = k + (i + 1) from by omega] at this
theorem zje {gs : List Oper} {φs : List (Value → RH → Prop)} {l : Nat → Value} {R : RH} : ∀ (es : List Edge), (∀ e ∈ es, Region.binds .any e = true → ∀ d, vz gs e.on = some d → phi φs e.on (l d) R) → zqe gs φs l R es
  | [], _ => trivial
  | e :: es, h => ⟨by
      cases hd : vz gs e.on with
      | none => trivial
      | some d => exact fun hb => h e (List.mem_cons_self ..) hb d hd, zje es fun e' he' => h e' (List.mem_cons_of_mem _ he')⟩
theorem zh3 {φs : List (Value → RH → Prop)} {R : RH} {l : Nat → Value} : ∀ (os : List Oper) (k : Nat) (K : List (Nat × Value) → Prop), zgm φs R K k os → (∀ i o d, os[i]? = some o → o.dst = some d → phi φs (k + i) (l d) R) →
    (∀ o ∈ os, o.dst.isSome = true) → K (os.map fun o => (o.dst.getD 0, l (o.dst.getD 0)))
  | [], k, K, h, _, _ => h
  | o :: os, k, K, h, hφ, hs => by
    obtain ⟨d, hd⟩ := Option.isSome_iff_exists.1 (hs o (List.mem_cons_self ..))
    have h0 := hφ 0 o d rfl hd
    have := h (l d) h0
    have ih := zh3 (l := l) os (k + 1) _ this (fun i o' d' hi hd' => by have := hφ (i + 1) o' d' (by simpa using hi) hd'; rwa [show k + (i + 1) = k + 1 + i from by omega] at this) (fun o' ho' => hs o' (List.mem_cons_of_mem _ ho'))
    simpa [hd] using ih
theorem zil {gs : List Oper} {l l0 : Nat → Value} (h : Agree gs l0 l) (hs : ∀ o ∈ gs, o.dst.isSome = true) : l = z1g l0 (gs.map fun o => (o.dst.getD 0, l (o.dst.getD 0))) := by
  have key : ∀ (os : List Oper), (∀ o ∈ os, o.dst.isSome = true) → ∀ s, z1g l0 (os.map fun o => (o.dst.getD 0, l (o.dst.getD 0))) s = if s ∈ os.filterMap (·.dst) then l s else l0 s := by
    intro os
    induction os with
    | nil => intro _ s; simp [z1g]
    | cons o os ih =>
      intro hs s
      obtain ⟨d, hd⟩ := Option.isSome_iff_exists.1 (hs o (List.mem_cons_self ..))
      simp only [List.map_cons, z1g, hd, Option.getD_some, List.filterMap_cons]
      unfold upd
      by_cases e : s = d
      · subst e; simp
      · have : Nat.beq s d = false := by
          cases hb : Nat.beq s d
          · rfl
          · exact absurd (Nat.eq_of_beq_eq_true hb) e
        rw [this]
        have := ih (fun o' ho' => hs o' (List.mem_cons_of_mem _ ho')) s
        simp only [cond_false, this, List.mem_cons, e, false_or]
  funext s
  rw [key gs hs s]
  split
  · rfl
  · rename_i hn
    refine h s ?_
    simpa [z9r] using hn
section main
variable {P : Program} {ρ : Option Nat} {n : Nat} {Q : Po} {D : List Nat} {gs ts : List Oper} {al : List NewBox} {φs : List (Value → RH → Prop)} {l0 : Nat → Value} {R0 : RH} {O : List Frag}
def z05 (gs : List Oper) (al : List NewBox) (listed : Array Bool) (l : Nat → Value) : List Frag :=
  (al.filter fun a => listed.getD a.idx false).map fun a => box (z6j (l ((vz gs a.idx).getD 0))) a.cells a.ty
structure J (gs : List Oper) (al : List NewBox) (φs : List (Value → RH → Prop)) (l0 : Nat → Value) (R0 : RH) (O : List Frag) (n : Nat) (D : List Nat) (listed : Array Bool) (a : Act) (w : World) : Prop where
  ex : ∃ l R, Fr n l D a ∧ Holds R (z05 gs al listed l ++ O ++ D.map z0o) w ∧ RH.le R0 R ∧ Agree gs l0 l ∧ (∀ i d, listed.getD i false = true → vz gs i = some d → phi φs i (l d) R)
theorem zf6 {k d : Nat} (h : vz gs k = some d) : d ∈ z9r gs := by
  unfold vz at h
  cases ho : gs[k]? with
  | none => rw [ho] at h; cases h
  | some o => rw [ho] at h; exact List.mem_filterMap.2 ⟨o, List.mem_of_getElem? ho, h⟩
theorem z0y {listed : Array Bool} {i : Nat} (hi : i < listed.size) (d : Bool) : (listed.setIfInBounds i true).getD i d = true := by
  rw [Array.getD_eq_getD_getElem?, Array.getElem?_setIfInBounds]; simp [hi]
theorem z6m (h : z5m gs al n ts = true) : (∀ (i : Nat) o, gs[i]? = some o → ∃ d, o.dst = some d ∧ d < n) ∧ (z9r gs).Nodup ∧
    (∀ (i : Nat) o, (gs ++ ts)[i]? = some o → ∀ e ∈ o.after, Region.binds .any e = true → e.on < i) ∧
    (∀ (p : Nat) o, ts[p]? = some o → o.guard = none ∧ (∀ d, o.dst = some d → d < n) ∧ ∀ j, j < gs.length + p → j ∈ forced (gs ++ ts) o (gs.length + p)) ∧
    (∀ a ∈ al, a.idx < gs.length) ∧ (al.map (·.idx)).Nodup := by
  simp only [z5m, Bool.and_eq_true, List.all_eq_true, decide_eq_true_eq] at h
  obtain ⟨⟨⟨⟨⟨h1, h2⟩, h3⟩, h4⟩, h5⟩, h6⟩ := h
  refine ⟨fun i o ho => ?_, h2, fun i o ho e he hb => ?_, fun p o ho => ?_, fun a ha => by have := h5 a ha; simpa using this, h6⟩
  · have := h1 o (List.mem_of_getElem? ho)
    cases hd : o.dst with
    | none => rw [hd] at this; cases this
    | some d => rw [hd] at this; exact ⟨d, rfl, by simpa using this⟩
  · have hm : (o, i) ∈ (gs ++ ts).zipIdx := by
      rw [List.mem_iff_getElem?]
      exact ⟨i, by rw [List.getElem?_zipIdx, ho]; simp⟩
    have := h3 _ hm
    simp only [Array.all_eq_true_iff_forall_mem] at this
    have := this e he
    simpa [hb] using this
  · have hm : (o, gs.length + p) ∈ ts.zipIdx gs.length := by
      rw [List.mem_iff_getElem?]
      exact ⟨p, by rw [List.getElem?_zipIdx, ho]; simp⟩
    have := h4 _ hm
    simp only [List.mem_range] at this
    obtain ⟨⟨g1, g2⟩, g3⟩ := this
    refine ⟨by simpa using g1, fun d hd => ?_, fun j hj => ?_⟩
    · rw [hd] at g2; simpa using g2
    · have := g3 j hj
      simpa using this
theorem z7a (hn : (z9r gs).Nodup) {i j d : Nat} (hi : vz gs i = some d) (hj : vz gs j = some d) : i = j := by
  have key : ∀ (os : List Oper), (os.filterMap (·.dst)).Nodup → ∀ (i j : Nat) (oi oj : Oper), os[i]? = some oi → os[j]? = some oj → oi.dst = some d → oj.dst = some d → i = j := by
    intro os
    induction os with
    | nil => intro _ i j oi oj h; simp at h
    | cons o os ih =>
      intro hnd i j oi oj h1 h2 e1 e2
      cases ho : o.dst with
      | none =>
        rw [List.filterMap_cons, ho] at hnd
        cases i with
        | zero => simp at h1; subst h1; rw [ho] at e1; cases e1
        | succ i => cases j with
          | zero => simp at h2; subst h2; rw [ho] at e2; cases e2
          | succ j => rw [ih hnd i j oi oj (by simpa using h1) (by simpa using h2) e1 e2]
      | some d0 =>
        rw [List.filterMap_cons, ho] at hnd
        obtain ⟨hx, hnd'⟩ := List.nodup_cons.1 hnd
        have hmem : ∀ (k : Nat) (ok : Oper), os[k]? = some ok → ok.dst = some d → d ∈ os.filterMap (·.dst) := fun k ok hk he => List.mem_filterMap.2 ⟨ok, List.mem_of_getElem? hk, he⟩
        cases i with
        | zero => cases j with
          | zero => rfl
          | succ j =>
            simp at h1; subst h1; rw [ho] at e1; cases e1
            exact absurd (hmem j oj (by simpa using h2) e2) hx
        | succ i => cases j with
          | zero =>
            simp at h2; subst h2; rw [ho] at e2; cases e2
            exact absurd (hmem i oi (by simpa using h1) e1) hx
          | succ j => rw [ih hnd' i j oi oj (by simpa using h1) (by simpa using h2) e1 e2]
  unfold vz at hi hj
  cases h1 : gs[i]? with
  | none => rw [h1] at hi; cases hi
  | some oi => cases h2 : gs[j]? with
    | none => rw [h2] at hj; cases hj
    | some oj => rw [h1] at hi; rw [h2] at hj; exact key gs hn i j oi oj h1 h2 hi hj
theorem zlt (hok : z5m gs al n ts = true) (hmono : z8h φs) (hobl : zg9 P ρ gs al φs l0 R0 O 0 gs) {listed : Array Bool} {a : Act} {w : World} {i : Nat} {o : Oper} (hsz : listed.size = gs.length + ts.length) (hi : gs[i]? = some o)
    (hj : J gs al φs l0 R0 O n D listed a w) (hun : listed.getD i true = false) (hdep : ∀ e ∈ o.after, Region.binds .any e = true → listed.getD e.on false = true) :
    wpOpIn (wide ρ) 0 P (gs ++ ts).toArray (lift n Q) i (J gs al φs l0 R0 O n D (listed.setIfInBounds i true)) a w := by
  obtain ⟨s1, s2, s3, s4, s5, s6⟩ := z6m hok
  obtain ⟨l, R, hf, hh, hle, hag, hφ⟩ := hj.ex
  obtain ⟨d, hd, hdn⟩ := s1 i o hi
  have hlt : i < gs.length := (List.getElem?_eq_some_iff.1 hi).1
  have hio : (gs ++ ts).toArray[i]? = some o := by simp [List.getElem?_append_left hlt, hi]
  have hdi : vz gs i = some d := by simp [vz, hi, hd]
  have hst := zgy gs 0 hobl i o hi l R hle hag (zje _ fun e he hb d' hd' => hφ e.on d' (hdep e (by simpa using he) hb) hd')
  rw [Nat.zero_add] at hst
  have hother : ∀ (v : Value) (k d' : Nat), k ≠ i → vz gs k = some d' → upd l d v d' = l d' := fun v k d' hk hd' => by
    have hne : d' ≠ d := fun e => by subst e; exact hk (z7a s2 hd' hdi)
    unfold upd
    cases hb : Nat.beq d' d
    · rfl
    · exact absurd (Nat.eq_of_beq_eq_true hb) hne
  have hself : ∀ v, upd l d v d = v := fun v => by simp [upd]
  have hag' : ∀ v, Agree gs l0 (upd l d v) := fun v s hs => by
    have hne : s ≠ d := fun e => by subst e; have := zf6 hdi; simp [this] at hs
    have : upd l d v s = l s := by
      unfold upd
      cases hb : Nat.beq s d
      · rfl
      · exact absurd (Nat.eq_of_beq_eq_true hb) hne
    rw [this]; exact hag s hs
  have hlist : ∀ k, k ≠ i → (listed.setIfInBounds i true).getD k false = listed.getD k false := fun k hk => getD_set_ne false (Ne.symm hk)
  have close : ∀ (v : Value) (R' : RH) (a' : Act) (w' : World), RH.le R R' → phi φs i v R' → Fr n (upd l d v) D a' → Holds R' (z05 gs al (listed.setIfInBounds i true) (upd l d v) ++ O ++ D.map z0o) w' →
      J gs al φs l0 R0 O n D (listed.setIfInBounds i true) a' w' := fun v R' a' w' hle' hp hf' hh' =>
    ⟨upd l d v, R', hf', hh', hle.trans hle', hag' v, fun k d' hk hd' => by
      by_cases e : k = i
      · subst e
        rw [hdi] at hd'; cases hd'
        rw [hself]; exact hp
      · rw [hother v k d' e hd']
        exact hmono _ _ _ _ hle' (hφ k d' (by rw [hlist k e] at hk; exact hk) hd')⟩
  have hboxes : ∀ v, zb1 al i = none → z05 gs al (listed.setIfInBounds i true) (upd l d v) = z05 gs al listed l := fun v hnone => by
    unfold z05
    have hni : ∀ a ∈ al, a.idx ≠ i := fun a ha e => by
      have := List.find?_eq_none.1 hnone a ha
      subst e; simp at this
    have e1 : (al.filter fun a => (listed.setIfInBounds i true).getD a.idx false) = al.filter fun a => listed.getD a.idx false :=
      List.filter_congr fun a ha => hlist a.idx (hni a ha)
    rw [e1]
    refine List.map_congr_left fun a ha => ?_
    have ha' := (List.mem_filter.1 ha).1
    cases hda : vz gs a.idx with
    | none =>
      obtain ⟨d2, hd2, _⟩ := s1 a.idx _ (List.getElem?_eq_getElem (s5 a ha'))
      simp [vz, List.getElem?_eq_getElem (s5 a ha'), hd2] at hda
    | some d2 => rw [Option.getD_some, hother v a.idx d2 (hni a ha') hda]
  have plain : zb1 al i = none → Stp P ρ al φs O i o l R → o.wpIn (wide ρ) 0 P a w (J gs al φs l0 R0 O n D (listed.setIfInBounds i true)) (lift n Q) := fun hnone hs => by
    simp only [Stp, hnone] at hs
    refine z2e (A := z05 gs al listed l ++ D.map z0o) hf (yc hh ?_) hs ?_
    · rw [← List.append_assoc]
      exact List.perm_append_comm.append_right _
    · rintro v R' O' w' hle' hh' ⟨rfl, hp⟩
      refine close v R' _ w' hle' hp (by have := hf.put (d := o.dst) (fun t ht => by rw [hd] at ht; cases ht; exact hdn) v; rw [hd] at this ⊢; exact this) ?_
      rw [hboxes v hnone]
      refine yc hh' ?_
      rw [← List.append_assoc]
      exact List.perm_append_comm.append_right _
  have fresh : ∀ na, zb1 al i = some na → Stp P ρ al φs O i o l R → o.wpIn (wide ρ) 0 P a w (J gs al φs l0 R0 O n D (listed.setIfInBounds i true)) (lift n Q) := fun na hsome hs => by
    simp only [Stp, hsome] at hs
    obtain ⟨hop, hz, hp⟩ := hs
    have hmem : na ∈ al := List.mem_of_find?_eq_some hsome
    have hidx : na.idx = i := Nat.eq_of_beq_eq_true (by simpa using List.find?_some hsome)
    have heff : Eff P ρ o l R (z05 gs al listed l ++ O) (fun v R' O' => R' = R ∧ ∃ b, v = .pointer (some ⟨b, 0, none⟩) ∧ O' = box b na.cells na.ty :: (z05 gs al listed l ++ O)) := by
      obtain ⟨dst, op, ty, pos, after, g⟩ := o
      simp only at hop
      subst hop
      exact zen hz
    refine z2e (A := D.map z0o) hf hh heff ?_
    rintro v R' O' w' hle' hh' ⟨rfl, b, rfl, rfl⟩
    refine close _ R' _ w' hle' (hp b R') (by have := hf.put (d := o.dst) (fun t ht => by rw [hd] at ht; cases ht; exact hdn) (.pointer (some ⟨b, 0, none⟩)); rw [hd] at this ⊢; exact this) ?_
    refine yc hh' ?_
    have hnl : listed.getD i false = false := by
      have hsz' : i < listed.size := by omega
      rw [Array.getD_eq_getD_getElem?, Array.getElem?_eq_getElem hsz'] at hun ⊢
      simpa using hun
    have hsplit : ∀ (al' : List NewBox), (al'.map (·.idx)).Nodup → na ∈ al' → (∀ a ∈ al', a ∈ al) →
        (box b na.cells na.ty :: (al'.filter fun a => listed.getD a.idx false).map fun a => box (z6j (l ((vz gs a.idx).getD 0))) a.cells a.ty).Perm
          ((al'.filter fun a => (listed.setIfInBounds i true).getD a.idx false).map fun a => box (z6j (upd l d (.pointer (some ⟨b, 0, none⟩)) ((vz gs a.idx).getD 0))) a.cells a.ty) := by
      intro al'
      induction al' with
      | nil => intro _ h; cases h
      | cons x al' ih =>
        intro hnd hm hsub
        obtain ⟨hx, hnd'⟩ := List.nodup_cons.1 hnd
        have rest : ∀ y ∈ al', y.idx ≠ i → box (z6j (l ((vz gs y.idx).getD 0))) y.cells y.ty = box (z6j (upd l d (.pointer (some ⟨b, 0, none⟩)) ((vz gs y.idx).getD 0))) y.cells y.ty := fun y hy hne => by
          have hy5 := s5 y (hsub y (List.mem_cons_of_mem _ hy))
          obtain ⟨d2, hd2, _⟩ := s1 y.idx _ (List.getElem?_eq_getElem hy5)
          have hda : vz gs y.idx = some d2 := by simp [vz, List.getElem?_eq_getElem hy5, hd2]
          rw [hda, Option.getD_some, hother _ y.idx d2 hne hda]
        by_cases hxi : x.idx = i
        · have hxna : x = na := by
            rcases List.mem_cons.1 hm with h | h
            · exact h.symm
            · exact absurd (show x.idx ∈ al'.map (·.idx) by rw [hxi, ← hidx]; exact List.mem_map_of_mem h) hx
          subst hxna
          have hrest : ∀ y ∈ al', y.idx ≠ i := fun y hy e => hx (show x.idx ∈ al'.map (·.idx) by rw [hxi, ← e]; exact List.mem_map_of_mem hy)
          rw [List.filter_cons, if_neg (by rw [hxi, hnl]; simp), List.filter_cons, if_pos (by rw [hxi]; exact z0y (by omega) false), List.map_cons]
          rw [hxi, hdi, Option.getD_some, hself]
          refine List.Perm.cons _ ?_
          rw [List.filter_congr (q := fun a => listed.getD a.idx false) (fun y hy => hlist y.idx (hrest y hy))]
          rw [List.map_congr_left (fun y hy => rest y (List.mem_filter.1 hy).1 (hrest y (List.mem_filter.1 hy).1))]
        · have hm' : na ∈ al' := by
            rcases List.mem_cons.1 hm with h | h
            · exact absurd (by rw [← h, hidx]) hxi
            · exact h
          have ih' := ih hnd' hm' (fun a ha => hsub a (List.mem_cons_of_mem _ ha))
          have hy5 := s5 x (hsub x (List.mem_cons_self ..))
          obtain ⟨d2, hd2, _⟩ := s1 x.idx _ (List.getElem?_eq_getElem hy5)
          have hda : vz gs x.idx = some d2 := by simp [vz, List.getElem?_eq_getElem hy5, hd2]
          rw [List.filter_cons, List.filter_cons, hlist x.idx hxi]
          split
          · rw [List.map_cons, List.map_cons, hda, Option.getD_some, hother _ x.idx d2 hxi hda]
            exact (List.Perm.swap _ _ _).trans (ih'.cons _)
          · exact ih'
    have := hsplit al s6 hmem (fun _ h => h)
    exact ((this.append_right O).append_right _)
  unfold wpOpIn
  rw [hio]
  simp only
  unfold GStep at hst
  cases hg : o.guard with
  | none =>
    rw [hg] at hst
    rw [z13 hg, if_pos rfl]
    cases hnew : zb1 al i with
    | none => exact plain hnew hst
    | some na => exact fresh na hnew hst
  | some jw =>
    obtain ⟨j, want⟩ := jw
    rw [hg] at hst
    obtain ⟨hnone, s, hsj, hcase⟩ := hst
    have hs' : z1y (gs ++ ts).toArray j = some s := by
      unfold vz at hsj
      unfold z1y
      cases hgj : gs[j]? with
      | none => rw [hgj] at hsj; cases hsj
      | some oj =>
        have hjl : j < gs.length := (List.getElem?_eq_some_iff.1 hgj).1
        rw [hgj] at hsj
        simp [List.getElem?_append_left hjl, hgj]
        simpa using hsj
    have hsn : s < n := by
      unfold vz at hsj
      cases hgj : gs[j]? with
      | none => rw [hgj] at hsj; cases hsj
      | some oj =>
        obtain ⟨d3, hd3, hn3⟩ := s1 j oj hgj
        rw [hgj] at hsj
        have e3 : d3 = s := by simpa [hd3] using hsj
        rw [← e3]; exact hn3
    have skip : phi φs i undef R → (∀ f, o.about P w a.eval = some f → (wide ρ).fn f) ∧ J gs al φs l0 R0 O n D (listed.setIfInBounds i true) (a.put o.dst undef) w := fun hno => by
      refine ⟨fun _ _ => trivial, close undef R _ w (RH.le.refl _) hno (by have := hf.put (d := o.dst) (fun t ht => by rw [hd] at ht; cases ht; exact hdn) undef; rw [hd] at this ⊢; exact this) ?_⟩
      rw [hboxes undef hnone]
      exact hh
    rcases hcase with ⟨b, hlb, hyes, hno⟩ | ⟨hlu, hno⟩
    case inr =>
      have hy : yielded (gs ++ ts).toArray a.tmps j = none := by
        unfold yielded
        unfold z1y at hs'
        rw [hs']
        have hg := hf.get s
        rw [hlu, Array.getD_eq_getD_getElem?] at hg
        simp only [Option.bind_some]
        cases h : a.tmps[s]? with
        | none => rfl
        | some u => rw [h] at hg; simp at hg; rw [hg]; rfl
      have hw : Region.wanted o (yielded (gs ++ ts).toArray a.tmps) = false := by
        simp only [Region.wanted, hg, hy]; rfl
      rw [hw, if_neg (by simp)]
      exact skip hno
    have hy := z8t hf hs' hsn hlb
    have hw : Region.wanted o (yielded (gs ++ ts).toArray a.tmps) = (b == want) := by
      simp only [Region.wanted, hg, hy]
      cases b <;> cases want <;> rfl
    rw [hw]
    by_cases hb : b = want
    · rw [if_pos (by simp [hb])]
      exact plain hnone (hyes hb)
    · rw [if_neg (by simpa using hb)]
      exact skip (hno hb)
inductive Ph (P : Program) (ρ : Option Nat) (n : Nat) (Q : Po) (D : List Nat) (gs ts : List Oper) (al : List NewBox) (φs : List (Value → RH → Prop)) (l0 : Nat → Value) (R0 : RH) (O : List Frag) (listed : Array Bool) (a : Act) (w : World) : Prop where
  | first (hj : J gs al φs l0 R0 O n D listed a w) (hn : ∀ k, gs.length ≤ k → listed.getD k false = false) (hcl : z5s (gs ++ ts) listed)
  | last (p : Nat) (hp : p ≤ ts.length) (hall : ∀ k, k < gs.length + p → listed.getD k false = true) (hn : ∀ k, gs.length + p ≤ k → listed.getD k false = false)
      (h : wlo (wide ρ) 0 P (gs ++ ts).toArray (lift n Q) (ts.drop p) a w)
theorem zjw (hok : z5m gs al n ts = true) (hend : ∀ R, RH.le R0 R → zgm φs R (fun acc => wo P ρ n (gs ++ ts).toArray Q ts (z1g l0 acc) D R (z4b gs al (z1g l0 acc) ++ O)) 0 gs) {listed : Array Bool} {a : Act} {w : World}
    (hj : J gs al φs l0 R0 O n D listed a w) (hn : ∀ k, gs.length ≤ k → listed.getD k false = false) (hall : ∀ k, k < gs.length → listed.getD k false = true) : wlo (wide ρ) 0 P (gs ++ ts).toArray (lift n Q) ts a w := by
  obtain ⟨s1, s2, s3, s4, s5, s6⟩ := z6m hok
  obtain ⟨l, R, hf, hh, hle, hag, hφ⟩ := hj.ex
  have hs : ∀ o ∈ gs, o.dst.isSome = true := fun o ho => by
    obtain ⟨i, hi⟩ := List.getElem?_of_mem ho
    obtain ⟨d, hd, _⟩ := s1 i o hi
    simp [hd]
  have h1 := zh3 (φs := φs) (R := R) (l := l) gs 0 _ (hend R hle) (fun i o d hi hd => by
    rw [Nat.zero_add]
    exact hφ i d (hall i (List.getElem?_eq_some_iff.1 hi).1) (by simp [vz, hi, hd])) hs
  rw [← zil hag hs] at h1
  have hbx : z05 gs al listed l = z4b gs al l := by
    unfold z05 z4b
    rw [List.filter_eq_self.2 (fun a ha => hall a.idx (s5 a ha))]
  rw [hbx] at hh
  exact h1 a w hf hh
theorem ze1 (hok : z5m gs al n ts = true) (hmono : z8h φs) (hobl : zg9 P ρ gs al φs l0 R0 O 0 gs)
    (hend : ∀ R, RH.le R0 R → zgm φs R (fun acc => wo P ρ n (gs ++ ts).toArray Q ts (z1g l0 acc) D R (z4b gs al (z1g l0 acc) ++ O)) 0 gs) :
    ∀ (fuel : Nat) (listed : Array Bool) (a : Act) (w : World), listed.size = gs.length + ts.length → ((List.range (gs.length + ts.length)).filter fun i => !listed.getD i true).length ≤ fuel →
      Ph P ρ n Q D gs ts al φs l0 R0 O listed a w → wpAnyIn (wide ρ) 0 P .any (gs ++ ts).toArray (lift n Q) fuel listed a w := by
  obtain ⟨s1, s2, s3, s4, s5, s6⟩ := z6m hok
  have hready : ∀ (listed : Array Bool), listed.size = gs.length + ts.length → Region.ready .any (gs ++ ts).toArray listed = [] → ∀ k, k < gs.length + ts.length → listed.getD k false = true := by
    intro listed hsz hr k
    induction k using Nat.strongRecOn with
    | _ k ih =>
      intro hk
      have hk' : k < (gs ++ ts).length := by simpa using hk
      have ho : (gs ++ ts).toArray[k]? = some ((gs ++ ts)[k]'hk') := by simp [hk]
      cases hb : listed.getD k false with
      | true => rfl
      | false =>
        have : k ∈ Region.ready .any (gs ++ ts).toArray listed := mem_ready.2 ⟨by
          rw [Array.getD_eq_getD_getElem?, Array.getElem?_eq_getElem (by omega)] at hb ⊢
          exact hb, _, ho, fun e he hbind => by
            have hlt := s3 k _ (by simp [hk]) e he hbind
            exact ih e.on hlt (by omega)⟩
        rw [hr] at this
        cases this
  have hdone : ∀ (listed : Array Bool) (a : Act) (w : World), listed.size = gs.length + ts.length → Ph P ρ n Q D gs ts al φs l0 R0 O listed a w → Region.ready .any (gs ++ ts).toArray listed = [] → lift n Q .normal a w := by
    intro listed a w hsz hp hr
    have hall := hready listed hsz hr
    have key : ∀ p, p ≤ ts.length → (∀ k, gs.length + p ≤ k → listed.getD k false = false) → wlo (wide ρ) 0 P (gs ++ ts).toArray (lift n Q) (ts.drop p) a w → lift n Q .normal a w := fun p hp hn h => by
      have : p = ts.length := by
        rcases Nat.lt_or_ge p ts.length with hlt | hge
        · have h1 := hall (gs.length + p) (by omega)
          rw [hn _ (Nat.le_refl _)] at h1; cases h1
        · omega
      subst this
      rw [List.drop_length] at h
      exact h
    cases hp with
    | first hj hn hcl =>
      exact key 0 (Nat.zero_le _) (by simpa using hn) (zjw hok hend hj hn (fun k hk => hall k (by omega)))
    | last p hp ha hn h => exact key p hp hn h
  have hstep : ∀ (listed : Array Bool) (a : Act) (w : World) (i : Nat), listed.size = gs.length + ts.length → Ph P ρ n Q D gs ts al φs l0 R0 O listed a w → i ∈ Region.ready .any (gs ++ ts).toArray listed →
      wpOpIn (wide ρ) 0 P (gs ++ ts).toArray (lift n Q) i (Ph P ρ n Q D gs ts al φs l0 R0 O (listed.setIfInBounds i true)) a w := by
    intro listed a w i hsz hp hi
    obtain ⟨hun, o, ho, hdep⟩ := mem_ready.1 hi
    have hil : i < gs.length + ts.length := by have := (Array.getElem?_eq_some_iff.1 ho).1; simpa using this
    have hun' : listed.getD i false = false := by
      rw [Array.getD_eq_getD_getElem?, Array.getElem?_eq_getElem (by omega)] at hun ⊢
      simpa using hun
    have hlist : ∀ k, k ≠ i → (listed.setIfInBounds i true).getD k false = listed.getD k false := fun k hk => getD_set_ne false (Ne.symm hk)
    have laststep : ∀ p, p ≤ ts.length → z5s (gs ++ ts) listed → (∀ k, k < gs.length + p → listed.getD k false = true) → (∀ k, gs.length + p ≤ k → listed.getD k false = false) → wlo (wide ρ) 0 P (gs ++ ts).toArray (lift n Q) (ts.drop p) a w →
        wpOpIn (wide ρ) 0 P (gs ++ ts).toArray (lift n Q) i (Ph P ρ n Q D gs ts al φs l0 R0 O (listed.setIfInBounds i true)) a w := by
      intro p hp hcl hall hn h
      have hge : gs.length + p ≤ i := by
        rcases Nat.lt_or_ge i (gs.length + p) with h' | h'
        · rw [hall i h'] at hun'; cases hun'
        · exact h'
      have hot : ts[i - gs.length]? = some o := by
        have : (gs ++ ts)[i]? = some o := by simpa using ho
        rwa [List.getElem?_append_right (by omega)] at this
      obtain ⟨hgn, _, hedges⟩ := s4 (i - gs.length) o hot
      have hip : i = gs.length + p := by
        rcases Nat.lt_or_ge (gs.length + p) i with h' | h'
        · have := z02 hcl hdep _ (hedges (gs.length + p) (by omega))
          rw [hn _ (Nat.le_refl _)] at this; cases this
        · omega
      subst hip
      rw [Nat.add_sub_cancel_left] at hot
      have hlt : p < ts.length := (List.getElem?_eq_some_iff.1 hot).1
      have hdrop : ts.drop p = o :: ts.drop (p + 1) := by
        rw [List.drop_eq_getElem_cons hlt]
        congr 1
        exact (List.getElem?_eq_some_iff.1 hot).2
      rw [hdrop] at h
      simp only [wlo, z13 hgn, if_true] at h
      unfold wpOpIn
      rw [ho]
      simp only [z13 hgn, if_true]
      refine Oper.wpIn_mono (fun a' w' h' => .last (p + 1) (by omega) (fun k hk => ?_) (fun k hk => ?_) h') h
      · by_cases e : k = gs.length + p
        · subst e; exact z0y (by omega) false
        · rw [hlist k e]; exact hall k (by omega)
      · rw [hlist k (by omega)]; exact hn k (by omega)
    cases hp with
    | last p hp hall hn h =>
      refine laststep p hp (fun k o' ho' hk e he hb => ?_) hall hn h
      have hkl : k < gs.length + p := by
        rcases Nat.lt_or_ge k (gs.length + p) with h' | h'
        · exact h'
        · rw [hn k h'] at hk; cases hk
      exact hall e.on (Nat.lt_trans (s3 k o' ho' e he hb) hkl)
    | first hj hn hcl =>
      rcases Nat.lt_or_ge i gs.length with hlt | hge
      · have hgi : gs[i]? = some o := by
          have : (gs ++ ts)[i]? = some o := by simpa using ho
          rwa [List.getElem?_append_left hlt] at this
        refine wpOpIn_mono (fun a' w' h' => .first h' (fun k hk => by rw [hlist k (by omega)]; exact hn k hk) (fun k o' ho' hk e he hb => ?_)) (zlt hok hmono hobl hsz hgi hj hun hdep)
        have hup : ∀ j, listed.getD j false = true → (listed.setIfInBounds i true).getD j false = true := fun j hj' => by
          by_cases e' : j = i
          · subst e'; rw [hj'] at hun'; cases hun'
          · rw [hlist j e']; exact hj'
        by_cases ek : k = i
        · subst ek
          have : o' = o := by
            have h2 : (gs ++ ts)[k]? = some o := by simpa using ho
            rw [h2] at ho'; exact (Option.some.inj ho').symm
          subst this
          exact hup _ (hdep e he hb)
        · rw [hlist k ek] at hk
          exact hup _ (hcl k o' ho' hk e he hb)
      · have hot : ts[i - gs.length]? = some o := by
          have : (gs ++ ts)[i]? = some o := by simpa using ho
          rwa [List.getElem?_append_right (by omega)] at this
        obtain ⟨_, _, hedges⟩ := s4 (i - gs.length) o hot
        have hall : ∀ k, k < gs.length → listed.getD k false = true := fun k hk => z02 hcl hdep _ (hedges k (by omega))
        exact laststep 0 (Nat.zero_le _) hcl (by simpa using hall) (by simpa using hn) (zjw hok hend hj hn hall)
  intro fuel
  induction fuel with
  | zero =>
    intro listed a w hsz hf hp
    have hr : Region.ready .any (gs ++ ts).toArray listed = [] := by
      cases hr : Region.ready .any (gs ++ ts).toArray listed with
      | nil => rfl
      | cons x xs =>
        have hx : x ∈ Region.ready .any (gs ++ ts).toArray listed := by rw [hr]; exact List.mem_cons_self ..
        obtain ⟨hun, o, ho, _⟩ := mem_ready.1 hx
        have : x ∈ ((List.range (gs.length + ts.length)).filter fun i => !listed.getD i true) := by
          rw [List.mem_filter, List.mem_range]
          exact ⟨by have := (Array.getElem?_eq_some_iff.1 ho).1; simpa using this, by rw [hun]; rfl⟩
        have := List.length_pos_of_mem this
        omega
    exact ⟨hr, hdone listed a w hsz hp hr⟩
  | succ fuel ih =>
    intro listed a w hsz hf hp
    refine ⟨hdone listed a w hsz hp, fun i hi => ?_⟩
    refine wpOpIn_mono (fun a' w' h' => ih _ a' w' (by simpa using hsz) ?_ h') (hstep listed a w i hsz hp hi)
    obtain ⟨hun, o, ho, _⟩ := mem_ready.1 hi
    have hil : i < gs.length + ts.length := by have := (Array.getElem?_eq_some_iff.1 ho).1; simpa using this
    have hsub : ((List.range (gs.length + ts.length)).filter fun k => !(listed.setIfInBounds i true).getD k true) = (((List.range (gs.length + ts.length)).filter fun k => !listed.getD k true).filter fun k => k != i) := by
      rw [List.filter_filter]
      refine List.filter_congr fun k _ => ?_
      by_cases e : k = i
      · subst e; rw [z0y (by omega)]; simp
      · rw [getD_set_ne true (Ne.symm e)]; simp [e]
    rw [hsub]
    have hmem : i ∈ ((List.range (gs.length + ts.length)).filter fun k => !listed.getD k true) := by
      rw [List.mem_filter, List.mem_range]
      exact ⟨hil, by rw [hun]; rfl⟩
    have : (((List.range (gs.length + ts.length)).filter fun k => !listed.getD k true).filter fun k => k != i).length < ((List.range (gs.length + ts.length)).filter fun k => !listed.getD k true).length := List.length_filter_lt_length_iff_exists.2 ⟨i, hmem, show ¬ ((i != i) = true) by simp⟩
    omega
theorem zoy {id : Nat} (hm : P.follows .mixedOrders = true) (hok : z5m gs al n ts = true) (hmono : z8h φs) (hobl : zg9 P ρ gs al φs l0 R0 O 0 gs)
    (hend : ∀ R, RH.le R0 R → zgm φs R (fun acc => wo P ρ n (gs ++ ts).toArray Q ts (z1g l0 acc) D R (z4b gs al (z1g l0 acc) ++ O)) 0 gs) : wg P ρ n (.region id (gs ++ ts).toArray true) Q l0 D R0 O := by
  intro a w hf hh
  refine wpIn_region_any hm ?_
  have hno : ∀ (k : Nat), (Array.replicate (gs ++ ts).toArray.size false).getD k false = false := fun k => by
    rw [Array.getD_eq_getD_getElem?, Array.getElem?_replicate]; split <;> rfl
  refine ze1 hok hmono hobl hend _ _ a _ (by simp) (by
    refine Nat.le_trans (List.length_filter_le _ _) ?_
    simp) (.first ⟨l0, R0, hf, ?_, RH.le.refl _, fun _ _ => rfl, fun i d hi => by rw [hno] at hi; cases hi⟩ (fun k _ => hno k) (fun k o' _ hk => by rw [hno] at hk; cases hk))
  have : z05 gs al (Array.replicate (gs ++ ts).toArray.size false) l0 = [] := by
    unfold z05
    rw [List.filter_eq_nil_iff.2 (fun a _ => by rw [hno]; simp)]
    rfl
  rw [this, List.nil_append]
  exact z5i hh
theorem z4y {os : List Oper} (m : Nat) : os.take m ++ os.drop m = os := List.take_append_drop m os
theorem bi {id : Nat} {os : List Oper} (m : Nat) (al : List NewBox) (φs : List (Value → RH → Prop)) (hm : P.follows .mixedOrders = true) (hok : z5m (os.take m) al n (os.drop m) = true) (hmono : z8h φs)
    (hobl : zg9 P ρ (os.take m) al φs l0 R0 O 0 (os.take m))
    (hend : ∀ R, RH.le R0 R → zgm φs R (fun acc => wo P ρ n os.toArray Q (os.drop m) (z1g l0 acc) D R (z4b (os.take m) al (z1g l0 acc) ++ O)) 0 (os.take m)) : wg P ρ n (.region id os.toArray true) Q l0 D R0 O := by
  have := zoy (P := P) (ρ := ρ) (n := n) (Q := Q) (D := D) (gs := os.take m) (ts := os.drop m) (al := al) (φs := φs) (l0 := l0) (R0 := R0) (O := O) (id := id) hm hok hmono hobl (by rw [z4y]; exact hend)
  rwa [z4y] at this
theorem zlx {id : Nat} (hlin : (Region.linearise .any (gs ++ ts).toArray 0 == List.range (gs ++ ts).toArray.size) = true) (hok : z5m gs al n ts = true) (hmono : z8h φs) (hobl : zg9 P ρ gs al φs l0 R0 O 0 gs)
    (hend : ∀ R, RH.le R0 R → zgm φs R (fun acc => wo P ρ n (gs ++ ts).toArray Q ts (z1g l0 acc) D R (z4b gs al (z1g l0 acc) ++ O)) 0 gs) : wg P ρ n (.region id (gs ++ ts).toArray false) Q l0 D R0 O := by
  intro a w hf hh
  refine wpIn_region ?_
  rw [← eq_of_beq hlin]
  refine wpAnyIn_sound _ _ _ a w ?_
  have hno : ∀ (k : Nat), (Array.replicate (gs ++ ts).toArray.size false).getD k false = false := fun k => by
    rw [Array.getD_eq_getD_getElem?, Array.getElem?_replicate]; split <;> rfl
  refine ze1 hok hmono hobl hend _ _ a _ (by simp) (by
    refine Nat.le_trans (List.length_filter_le _ _) ?_
    simp) (.first ⟨l0, R0, hf, ?_, RH.le.refl _, fun _ _ => rfl, fun i d hi => by rw [hno] at hi; cases hi⟩ (fun k _ => hno k) (fun k o' _ hk => by rw [hno] at hk; cases hk))
  have : z05 gs al (Array.replicate (gs ++ ts).toArray.size false) l0 = [] := by
    unfold z05
    rw [List.filter_eq_nil_iff.2 (fun a _ => by rw [hno]; simp)]
    rfl
  rw [this, List.nil_append]
  exact hh
theorem xq {id : Nat} {os : List Oper} (m : Nat) (al : List NewBox) (φs : List (Value → RH → Prop)) (hlin : (Region.linearise .any os.toArray 0 == List.range os.toArray.size) = true) (hok : z5m (os.take m) al n (os.drop m) = true) (hmono : z8h φs)
    (hobl : zg9 P ρ (os.take m) al φs l0 R0 O 0 (os.take m))
    (hend : ∀ R, RH.le R0 R → zgm φs R (fun acc => wo P ρ n os.toArray Q (os.drop m) (z1g l0 acc) D R (z4b (os.take m) al (z1g l0 acc) ++ O)) 0 (os.take m)) : wg P ρ n (.region id os.toArray false) Q l0 D R0 O := by
  have := zlx (P := P) (ρ := ρ) (n := n) (Q := Q) (D := D) (gs := os.take m) (ts := os.drop m) (al := al) (φs := φs) (l0 := l0) (R0 := R0) (O := O) (id := id) (by rw [z4y]; exact hlin) hok hmono hobl (by rw [z4y]; exact hend)
  rwa [z4y] at this
/-! ### What is said of an operation's value -/
def phX (v0 : Value) : Value → RH → Prop := fun v _ => v = v0
def phR {α : Type} (T : Ty α) (x : α) : Value → RH → Prop := fun v R => VRep T R v x
def phP {α : Type} (T : Ty α) (x : α) : Value → RH → Prop := fun v R => PRep T R v x
def phG (G : Bool) (φ : Value → RH → Prop) : Value → RH → Prop := fun v R => (G = true → φ v R) ∧ (G = false → v = undef)
def zin (φ : Value → RH → Prop) : Prop := ∀ v R R', RH.le R R' → φ v R → φ v R'
theorem zk {v : Value} : zin (phX v) := fun _ _ _ _ h => h
theorem uf {α : Type} {T : Ty α} {x : α} : zin (phR T x) := fun _ _ _ hle h => VRep.mono h hle
theorem kz {α : Type} {T : Ty α} {x : α} : zin (phP T x) := fun _ _ _ hle h => PRep.mono h hle
theorem zo {G : Bool} {φ : Value → RH → Prop} (h : zin φ) : zin (phG G φ) := fun v R R' hle k => ⟨fun e => h v R R' hle (k.1 e), k.2⟩
def zqu : List (Value → RH → Prop) → Prop
  | [] => True
  | φ :: r => zin φ ∧ zqu r
theorem jq : ∀ {φs : List (Value → RH → Prop)}, zqu φs → z8h φs
  | [], _ => fun k v R R' _ _ => by simp [phi]
  | φ :: r, h => fun k v R R' hle hp => by
    cases k with
    | zero => exact h.1 v R R' hle hp
    | succ k => exact jq (φs := r) h.2 k v R R' hle hp
theorem zi {gs : List Oper} {al : List NewBox} {φs : List (Value → RH → Prop)} {k j s : Nat} {o : Oper} {l : Nat → Value} {R : RH} {Gj Bj want : Bool} {φ : Value → RH → Prop} (hg : o.guard = some (j, want)) (hnew : zb1 al k = none) (hs : vz gs j = some s)
    (hj : phG Gj (phX (.bool Bj)) (l s) R) (hphi : phi φs k = phG (Gj && (Bj == want)) φ) (hyes : Gj = true → Bj = want → Eff P ρ o l R O fun v R' O' => O' = O ∧ φ v R') : GStep P ρ gs al φs O k o l R := by
  unfold GStep
  rw [hg]
  refine ⟨hnew, s, hs, ?_⟩
  cases Gj with
  | false => exact .inr ⟨hj.2 rfl, by rw [hphi]; exact ⟨fun h => by (cases h), fun _ => rfl⟩⟩
  | true =>
    refine .inl ⟨Bj, hj.1 rfl, fun hb => ?_, fun hb => ?_⟩
    · simp only [Stp, hnew]
      refine (hyes rfl hb).mono fun v R' O' _ h => ⟨h.1, ?_⟩
      rw [hphi, hb]
      exact ⟨fun _ => h.2, fun h => by simp at h⟩
    · rw [hphi]
      have : (Bj == want) = false := by simpa using hb
      rw [this]
      exact ⟨fun h => by simp at h, fun _ => rfl⟩
theorem zx {Bj : Bool} {v : Value} {R : RH} (h : v = .bool Bj) : phG true (phX (.bool Bj)) v R := ⟨fun _ => h, fun h => by (cases h)⟩
theorem zb {gs : List Oper} {al : List NewBox} {φs : List (Value → RH → Prop)} {k : Nat} {o : Oper} {l : Nat → Value} {R : RH} {φ : Value → RH → Prop} (hg : o.guard = none) (hnew : zb1 al k = none) (hphi : phi φs k = φ)
    (h : Eff P ρ o l R O fun v R' O' => O' = O ∧ φ v R') : GStep P ρ gs al φs O k o l R := by
  unfold GStep
  rw [hg]
  simp only [Stp, hnew]
  rw [hphi]
  exact h
end main
end GV
end Go.Proofs.Ytplgbkaollfmkaa

namespace Go.Proofs.Ytplgbkaollfmkaa
namespace GV
def CallV (P : Program) (fv : Value) (args : Array Value) (R : RH) (O : List Frag) (post : Value → RH → List Frag → Prop) : Prop :=
  ∀ A w, Holds R (O ++ A) w → Out P (fun v w' => ∃ R' O', R.le R' ∧ Holds R' (O' ++ A) w' ∧ post v R' O') ((do let d ← Deferred.ofValue fv args; invoke d.target d.args : Sem Next).run P w)
theorem z4t {P : Program} {K K' : Value → World → Prop} {r : Result Next} (h : Out P K r) (hk : ∀ v w, K v w → K' v w) : Out P K' r := by
  cases r with
  | halt x y => exact h
  | ok nx w1 =>
    cases nx with
    | value v => exact hk _ _ h
    | skip => exact hk _ _ h
    | enter f args => exact Calls.mono h fun e w' ⟨v, he, a⟩ => ⟨v, he, hk _ _ a⟩
    | round l f tmps as b => exact RoundIn.mono h fun e w' ⟨v, he, a⟩ => ⟨v, he, hk _ _ a⟩
    | _ => exact h
theorem CallV.mono {P : Program} {fv : Value} {args : Array Value} {R : RH} {O : List Frag} {post post' : Value → RH → List Frag → Prop} (h : CallV P fv args R O post)
    (hp : ∀ v R' O', RH.le R R' → post v R' O' → post' v R' O') : CallV P fv args R O post' :=
  fun A w hh => z4t (h A w hh) fun v w' ⟨R', O', a, b, c⟩ => ⟨R', O', a, b, hp _ _ _ a c⟩
section iter
variable {P : Program} {ρ : Option Nat} {n : Nat} {Q : Po} {l : Nat → Value} {D : List Nat} {R : RH} {O : List Frag} {dst : Option Tmp} {ty : TypeId} {pos : String} {after : Array Edge} {g : Option (Nat × Bool)}
theorem zkt {c : Operand} {args : Array Operand} {at' : Array TypeId} {fv : Value} {vs : Array Value} {Oc Or : List Frag} {post : Value → RH → List Frag → Prop} (hc : ev l c = fv) (ha : args.map (ev l) = vs) (hp : O.Perm (Oc ++ Or))
    (h : CallV P fv vs R Oc post) : Eff P ρ ⟨dst, .call ⟨.value c, args, at'⟩, ty, pos, after, g⟩ l R O (fun v R' O' => ∃ Oc', O' = Oc' ++ Or ∧ post v R' Oc') := by
  intro A w hh; rw [qw (by intro c h; cases h)]
  have hh' : Holds R (Oc ++ (Or ++ A)) w := yc hh (by rw [← List.append_assoc]; exact hp.append_right A)
  have e : execOp (ev l) (⟨dst, .call ⟨.value c, args, at'⟩, ty, pos, after, g⟩ : Oper) = (do let d ← Deferred.ofValue fv vs; invoke d.target d.args : Sem Next) := by
    simp only [execOp, resolve, hc, ha]
  rw [e]
  exact z4t (h _ w hh') fun v w' ⟨R', O', a, b, c⟩ => ⟨R', O' ++ Or, a, by rw [List.append_assoc]; exact b, O', rfl, c⟩
theorem z8w {f : FuncId} {fs cs vs as : Array Value} {post : Value → RH → List Frag → Prop} (he : Enters P f) (has : fs ++ vs ++ cs = as) (h : CallG P f as R O post) : CallV P (.func (.func f) fs cs) vs R O post := by
  intro A w hh
  subst has
  have e : (do let d ← Deferred.ofValue (.func (.func f) fs cs) vs; invoke d.target d.args : Sem Next).run P w = .ok (.enter f (fs ++ vs ++ cs)) w := by
    simp only [Deferred.ofValue, Sem.run_bind, Sem.run_pure, Result.andThen_ok, invoke, he (fs ++ vs ++ cs) w]
  rw [e]
  exact Calls.mono (h A w hh) fun e w' ⟨v, he, R', O', a, b, c⟩ => ⟨v, he, R', O', a, b, c⟩
def z6w (lb : Nat) (L : Loop) : Frag := single lb (.loop L)
def FrT (n : Nat) (l : Nat → Value) (t : Array Value) : Prop := t.size = n ∧ ∀ i, t.getD i undef = l i
def zbq : List (Nat × Value) → (Nat → Value) → Nat → Value
  | [], l => l
  | (p, v) :: r, l => zbq r (upd l p v)
theorem zpd {t : Array Value} {p : Nat} (h : FrT n l t) (hp : p < n) (v : Value) : FrT n (upd l p v) (t.setIfInBounds p v) := by
  have hf : Fr n l [] { tmps := t, defers := [] } := ⟨h.1, h.2, rfl⟩
  have := hf.put (d := some p) (fun t ht => by cases ht; exact hp) v
  exact ⟨this.size, this.get⟩
theorem zhc : ∀ (ps : List (Nat × Value)) (l : Nat → Value) (t : Array Value), FrT n l t → (∀ p ∈ ps, p.1 < n) → FrT n (zbq ps l) (ps.foldl (fun (t : Array Value) (x : Nat × Value) => t.setIfInBounds x.1 x.2) t)
  | [], l, t, h, _ => h
  | (p, v) :: ps, l, t, h, hp => zhc ps _ _ (zpd h (hp (p, v) (List.mem_cons_self ..)) v) (fun q hq => hp q (List.mem_cons_of_mem _ hq))
def zo2 (R0 : RH) (X : List Frag) (RP : Option Code → RH → List Frag → Prop) : Po
  | .normal, _, D, R, O => D = [] ∧ RH.le R0 R ∧ ∃ O', O.Perm (O' ++ X) ∧ RP none R O'
  | .ret, _, D, R, O => D = [] ∧ RH.le R0 R ∧ ∃ O', O.Perm (O' ++ X) ∧ RP (some .ret) R O'
  | .exit id, _, D, R, O => D = [] ∧ RH.le R0 R ∧ ∃ O', O.Perm (O' ++ X) ∧ RP (some (.exit id)) R O'
  | _, _, _, _, _ => False
theorem z5g {w : World} {r k : Nat} {o : Obj} (h : k ≠ r) : (w.putObj r o).heap[k]? = w.heap[k]? := World.putObj_heap_other h
theorem zge {lb : Nat} {L : Loop} {ps : List Nat} {vs : List Value} {RP : Option Code → RH → List Frag → Prop} (hs : L.state = .ready) (hps : L.params = ps.toArray) (hlen : ps.length = vs.length) (hpn : ∀ p ∈ ps, p < n) (hfr : FrT n l L.tmps)
    (h : ∀ X, wg P (some lb) n L.assign (fun e l1 D1 R1 O1 => e = .normal ∧ D1 = [] ∧ RH.le R R1 ∧ ∃ Oa, O1.Perm (Oa ++ X) ∧ ∀ X', wg P (some lb) n L.body (zo2 R X' RP) l1 [] R1 (Oa ++ X')) (zbq (ps.zip vs) l) [] R (O ++ X)) :
    CallV P (.func (.yield lb) #[] #[]) vs.toArray R (z6w lb L :: O) (fun v R' O' => ∃ pend O'', v = .bool pend.isNone ∧ O' = z6w lb { L with state := if pend.isNone then .ready else .done, pending := pend } :: O'' ∧ RP pend R' O'') := by
  intro A w hh
  have hblk : w.heap[lb]? = some (.loop L) := (hh.own _ (List.mem_cons_self ..) lb _ (uj _ _)).1
  have e : (do let d ← Deferred.ofValue (.func (.yield lb) #[] #[]) vs.toArray; invoke d.target d.args : Sem Next).run P w =
      .ok (.round lb L.fn ((ps.zip vs).foldl (fun (t : Array Value) (x : Nat × Value) => t.setIfInBounds x.1 x.2) L.tmps) L.assign L.body) w := by
    simp only [Deferred.ofValue, Sem.run_bind, Sem.run_pure, Result.andThen_ok, invoke]
    have : (#[] ++ vs.toArray : Array Value) = vs.toArray := by simp
    rw [this, run_yield hblk (by rw [hps]; simp [hlen])]
    congr 2
    rw [hps]
    simp [List.zip_toArray]
  rw [e]
  have hfr' := zhc (n := n) (ps.zip vs) l L.tmps hfr (fun p hp => hpn p.1 (List.of_mem_zip hp).1)
  refine roundIn_of_wpIn (F := Fence.wide) trivial ?_
  have hperm : ∀ (X : Frag) (Y : List Frag), ((X :: Y) ++ A).Perm ((Y ++ (X :: A)) ++ ([] : List Nat).map z0o) := fun X Y => by
    simp only [List.map_nil, List.append_nil, List.cons_append]
    exact List.perm_middle.symm
  refine wpIn_mono (h (z6w lb L :: A) _ w ⟨hfr'.1, hfr'.2, rfl⟩ (yc hh (hperm _ _))) ?_
  rintro e1 a1 w1 ⟨l1, D1, R1, O1, hf1, hh1, rfl, rfl, hle1, Oa, hpa, hbody⟩
  simp only [List.map_nil, List.append_nil] at hh1
  have hh1' : Holds R1 (single lb (.loop L) :: (Oa ++ A)) w1 := yc hh1 (hpa.trans List.perm_middle)
  have hb1 : w1.heap[lb]? = some (.loop L) := (hh1'.own _ (List.mem_cons_self ..) lb _ (uj _ _)).1
  refine ⟨_, run_beginRound hb1 hs, ?_⟩
  have hh2 := z3h hh1' (putObj_heap_same (o' := .loop { L with state := .busy }) hb1) (fun k hk => z5g hk) rfl rfl
  refine wpIn_mono (hbody (z6w lb { L with state := .busy } :: A) a1 _ hf1 (yc hh2 (hperm _ _))) ?_
  have fin : ∀ (pend : Option Code) (a2 : Act) (w2 : World) (R2 : RH) (O2 : List Frag) (O' : List Frag), Holds R2 (O2 ++ ([] : List Nat).map z0o) w2 → RH.le R R2 → O2.Perm (O' ++ (z6w lb { L with state := .busy } :: A)) → RP pend R2 O' →
      ∃ v w', (Instr.endRound lb pend).run P w2 = .ok v w' ∧ ∃ v', Ending.returned v = .returned v' ∧ ∃ R' O'', RH.le R R' ∧ Holds R' (O'' ++ A) w' ∧
        ∃ pend O''', v' = .bool pend.isNone ∧ O'' = z6w lb { L with state := if pend.isNone then .ready else .done, pending := pend } :: O''' ∧ RP pend R' O''' := by
    intro pend a2 w2 R2 O2 O' hh3 hle hp hrp
    simp only [List.map_nil, List.append_nil] at hh3
    have hh4 : Holds R2 (single lb (.loop { L with state := .busy }) :: (O' ++ A)) w2 := yc hh3 (hp.trans List.perm_middle)
    have hb2 : w2.heap[lb]? = some (.loop { L with state := .busy }) := (hh4.own _ (List.mem_cons_self ..) lb _ (uj _ _)).1
    refine ⟨_, _, run_endRound pend hb2, _, rfl, R2, _, hle, ?_, pend, O', rfl, rfl, hrp⟩
    exact z3h hh4 (putObj_heap_same hb2) (fun k hk => z5g hk) rfl rfl
  rintro e2 a2 w2 ⟨l2, D2, R2, O2, hf2, hh3, hq⟩
  cases e2 with
  | normal => obtain ⟨rfl, hle, O', hp, hrp⟩ := hq; exact fin none a2 w2 R2 O2 O' hh3 hle hp hrp
  | ret => obtain ⟨rfl, hle, O', hp, hrp⟩ := hq; exact fin _ a2 w2 R2 O2 O' hh3 hle hp hrp
  | exit id => obtain ⟨rfl, hle, O', hp, hrp⟩ := hq; exact fin _ a2 w2 R2 O2 O' hh3 hle hp hrp
  | goto _ => exact hq.elim
  | panic _ => exact hq.elim
  | outgrown => exact hq.elim
theorem zfu {gv : Operand} {ps : Array Nat} {assign body : Code} {f : FuncId} {fs cs : Array Value} {Oc Or : List Frag} (hg : ev l gv = .func (.func f) fs cs) (he : Enters P f) (hp : O.Perm (Oc ++ Or))
    (h : ∀ (lb dd : Nat) (fn : FuncId) (t : Array Value), FrT n l t → CallG P f (fs ++ #[.func (.yield lb) #[] #[]] ++ cs) R (z6w lb { state := .ready, pending := none, fn, tmps := t, params := ps, assign, body, defers := dd } :: Oc)
      (fun v R' O' => ∃ L' Oc', O' = z6w lb L' :: Oc' ∧ L'.state ≠ .busy ∧ (match L'.pending with | none => Q .normal l (dd :: D) R' (Oc' ++ Or) | some c => wg P none n c Q l (dd :: D) R' (Oc' ++ Or)))) :
    wg P none n (.rangeFunc gv ps assign body) Q l D R O := by
  intro a w hf hh
  refine wpIn_rangeFunc (F := wide none) fun fn _ => ?_
  have hres : (resolve a.eval (rangeCall gv (w.heap.size + 1)) 0).run P ((w.alloc (.deferred (some []))).alloc (.loop { state := .ready, pending := none, fn, tmps := a.tmps, params := ps, assign, body, defers := w.heap.size })) =
      .ok { target := .fn (.func f) cs, args := fs ++ #[.func (.yield (w.heap.size + 1)) #[] #[]] } ((w.alloc (.deferred (some []))).alloc (.loop { state := .ready, pending := none, fn, tmps := a.tmps, params := ps, assign, body, defers := w.heap.size })) := by
    rw [hf.eval]
    have hm : (#[Operand.const (Value.func (Fn.yield (w.heap.size + 1)) #[] #[])] : Array Operand).map (ev l) = #[.func (.yield (w.heap.size + 1)) #[] #[]] := by simp [ev]
    simp only [resolve, hg, Deferred.ofValue, hm, Sem.run_pure]
  have hinv : ∀ (u : World), (invoke ({ target := .fn (.func f) cs, args := fs ++ #[.func (.yield (w.heap.size + 1)) #[] #[]] } : Deferred).target ({ target := .fn (.func f) cs, args := fs ++ #[.func (.yield (w.heap.size + 1)) #[] #[]] } : Deferred).args).run P u =
      .ok (.enter f (fs ++ #[.func (.yield (w.heap.size + 1)) #[] #[]] ++ cs)) u := fun u => by
    simp only [invoke]; exact he _ _
  refine ⟨_, _, _, _, _, f, fs ++ #[.func (.yield (w.heap.size + 1)) #[] #[]] ++ cs, _, run_enterLoop_outer _ _ _ _ _, hres, fun _ _ => trivial, hinv _, fun h => (by cases h), ?_⟩
  · refine Calls.callsIn none ?_
    have h1 := z2t hh (.deferred (some []))
    have h2 := z2t h1 (.loop { state := .ready, pending := none, fn, tmps := a.tmps, params := ps, assign, body, defers := w.heap.size })
    rw [World.size_alloc] at h2
    have hperm : (single (w.heap.size + 1) (.loop { state := .ready, pending := none, fn, tmps := a.tmps, params := ps, assign, body, defers := w.heap.size }) :: single w.heap.size (.deferred (some [])) :: (O ++ D.map z0o)).Perm
        ((z6w (w.heap.size + 1) { state := .ready, pending := none, fn, tmps := a.tmps, params := ps, assign, body, defers := w.heap.size } :: Oc) ++ (Or ++ (w.heap.size :: D).map z0o)) := by
      rw [List.cons_append]
      refine List.Perm.cons _ ?_
      rw [List.map_cons, ← List.append_assoc]
      refine List.Perm.trans ?_ List.perm_middle.symm
      exact List.Perm.cons _ (hp.append_right _)
    refine Calls.mono (h (w.heap.size + 1) w.heap.size fn a.tmps ⟨hf.size, hf.get⟩ _ _ (yc h2 hperm)) ?_
    rintro e w3 ⟨v, rfl, R', O', hle, hh3, L', Oc', rfl, hnb, hq⟩
    have hb3 : w3.heap[w.heap.size + 1]? = some (.loop L') := (hh3.own _ (List.mem_cons_self ..) _ _ (uj _ _)).1
    refine ⟨_, _, run_endLoop hb3 hnb, ?_⟩
    have hh4 := z3h hh3 (putObj_heap_same (o' := .loop { L' with state := .exhausted }) hb3) (fun k hk => z5g hk) rfl rfl
    have hh5 : Holds R' ((Oc' ++ Or) ++ (w.heap.size :: D).map z0o) (w3.putObj (w.heap.size + 1) (.loop { L' with state := .exhausted })) := by
      have := z7z hh4
      rw [List.append_assoc]; exact this
    have hf' : Fr n l (w.heap.size :: D) { a with defers := [{ target := .collected w.heap.size, args := #[] }] ++ a.defers } := ⟨hf.size, hf.get, by rw [hf.defers]; rfl⟩
    obtain ⟨st, pend, lfn, lt, lps, las, lbd, ldf⟩ := L'
    cases pend with
    | none => exact ⟨l, _, R', _, hf', hh5, hq⟩
    | some c => exact hq _ _ hf' hh5
end iter
end GV
end Go.Proofs.Ytplgbkaollfmkaa

namespace Go.Proofs.Ytplgbkaollfmkaa
namespace GV
open Go.IntWalk
section wo
variable {P : Program} {ρ : Option Nat} {n : Nat} {Q : Po} {l : Nat → Value} {D : List Nat} {R : RH} {O : List Frag} {ops : Array Oper} {rest : List Oper} {ty : TypeId} {pos : String} {after : Array Edge} {d : Nat}
theorem z0t {op : Op} {φ : Value → RH → List Frag → Prop} (hd : Nat.blt d n = true) (h : Eff P ρ ⟨some d, op, ty, pos, after, none⟩ l R O φ)
    (hk : ∀ v R' O', RH.le R R' → φ v R' O' → wo P ρ n ops Q rest (upd l d v) D R' O') : wo P ρ n ops Q (⟨some d, op, ty, pos, after, none⟩ :: rest) l D R O :=
  zfr rfl (fun t ht => by cases ht; simpa using hd) h hk
theorem z9v {op : Op} {φ : Value → RH → List Frag → Prop} (h : Eff P ρ ⟨none, op, ty, pos, after, none⟩ l R O φ)
    (hk : ∀ v R' O', RH.le R R' → φ v R' O' → wo P ρ n ops Q rest l D R' O') : wo P ρ n ops Q (⟨none, op, ty, pos, after, none⟩ :: rest) l D R O :=
  zfr rfl (fun t ht => by cases ht) h hk
theorem zf {op : Op} {v : Value} (hd : Nat.blt d n = true) (h : Val P ρ ⟨some d, op, ty, pos, after, none⟩ l R O v) (hk : wo P ρ n ops Q rest (upd l d v) D R O) : wo P ρ n ops Q (⟨some d, op, ty, pos, after, none⟩ :: rest) l D R O :=
  zs1 rfl rfl hd h hk
theorem ql {α : Type} {T : Ty α} {t : TypeId} {x : Operand} {v : Value} {y : α} (hd : Nat.blt d n = true) (ht : TyOk P t T) (hx : ev l x = v) (hp : PRep T R v y) (hk : ∀ u, VRep T R u y → wo P ρ n ops Q rest (upd l d u) D R O) :
    wo P ρ n ops Q (⟨some d, .load t x, ty, pos, after, none⟩ :: rest) l D R O :=
  let ⟨u, hu, hv⟩ := zad (ρ := ρ) (O := O) ht hx hp
  zf hd (hv _ _ _ _ _) (hk u hu)
theorem um {α β : Type} {A : Ty α} {B : Ty β} {s : TypeId} {x : Operand} {f o : Nat} {v : Value} {y : α} {pr : α → β} (hd : Nat.blt d n = true) (hf : FieldOk P s f o) (hpart : Part A o B pr) (hx : ev l x = v) (hp : PRep A R v y)
    (hk : ∀ u, PRep B R u (pr y) → wo P ρ n ops Q rest (upd l d u) D R O) : wo P ρ n ops Q (⟨some d, .fieldAddr s x f, ty, pos, after, none⟩ :: rest) l D R O :=
  let ⟨u, hu, hv⟩ := zde (ρ := ρ) (O := O) hf hpart hx hp
  zf hd (hv _ _ _ _ _) (hk u hu)
theorem getD_some {α : Type} [Inhabited α] {X : List α} {i : Nat} (h : i < X.length) : X[i]? = some (X.getD i default) := by
  rw [List.getD_eq_getElem?_getD, List.getElem?_eq_getElem h]; rfl
theorem ky {α : Type} [Inhabited α] {T : Ty α} {t e : TypeId} {x ix : Operand} {v : Value} {X : List α} {k : IntKind} {i : Nat} (hd : Nat.blt d n = true) (ht : SlOk P t e T) (hx : ev l x = v) (hr : VRep (yj T) R v X)
    (hi : ev l ix = .int k i) (hy : i < X.length) (hk : ∀ u, PRep T R u (X.getD i default) → wo P ρ n ops Q rest (upd l d u) D R O) : wo P ρ n ops Q (⟨some d, .indexAddr t x ix, ty, pos, after, none⟩ :: rest) l D R O :=
  let ⟨u, hu, hv⟩ := zc7 (ρ := ρ) (O := O) ht hx hr hi (getD_some hy)
  zf hd (hv _ _ _ _ _) (hk u hu)
def z1m {α : Type} (T : Ty α) (v : Value) (X : List α) (u : Value) (i : Nat) : Prop := ∃ b off, v = .slice (some ⟨b, off, none⟩) X.length (capOf v) ∧ u = .pointer (some ⟨b, off + i * T.size, none⟩)
theorem gm {α : Type} {T : Ty α} {t e : TypeId} {x ix : Operand} {v : Value} {X : List α} {k : IntKind} {i : Nat} {f : Frag} (hd : Nat.blt d n = true) (ht : SlOk P t e T) (hx : ev l x = v) (hr : ORep T R f v X)
    (hi : ev l ix = .int k i) (hy : i < X.length) (hk : ∀ u, z1m T v X u i → wo P ρ n ops Q rest (upd l d u) D R O) : wo P ρ n ops Q (⟨some d, .indexAddr t x ix, ty, pos, after, none⟩ :: rest) l D R O :=
  let ⟨b, off, h1, hv⟩ := zd8 (ρ := ρ) (O := O) ht hx hr hi hy
  zf hd (hv _ _ _ _ _) (hk _ ⟨b, off, h1, rfl⟩)
theorem z3q {α : Type} [Inhabited α] {T : Ty α} {t : TypeId} {x : Operand} {f : Frag} {v u : Value} {X : List α} {i j : Nat} (hd : Nat.blt d n = true) (ht : TyOk P t T) (hv : ORep T R f v X) (hO : O[j]? = some f) (hx : ev l x = u) (hp : z1m T v X u i) (hy : i < X.length)
    (hk : ∀ y, VRep T R y (X.getD i default) → wo P ρ n ops Q rest (upd l d y) D R O) : wo P ρ n ops Q (⟨some d, .load t x, ty, pos, after, none⟩ :: rest) l D R O := by
  obtain ⟨b, off, h1, rfl⟩ := hp
  obtain ⟨y, hy', hl⟩ := ze3 (ρ := ρ) (P := P) ht hv h1 hO hx (getD_some hy)
  exact zf hd (hl _ _ _ _ _) (hk y hy')
theorem o6 {α : Type} {T : Ty α} {t : TypeId} {x y : Operand} {f : Frag} {v u w : Value} {X : List α} {i j : Nat} {z : α} (ht : TyOk P t T) (hv : ORep T R f v X) (hO : O[j]? = some f) (hx : ev l x = u) (hp : z1m T v X u i) (hi : i < X.length)
    (hy : ev l y = w) (hz : VRep T R w z) (hk : ∀ f', ORep T R f' v (X.set i z) → wo P ρ n ops Q rest l D R (O.set j f')) : wo P ρ n ops Q (⟨none, .store t x y, ty, pos, after, none⟩ :: rest) l D R O := by
  obtain ⟨b, off, h1, rfl⟩ := hp
  refine z9v (zcy ht hv h1 hO hx hi hy hz) ?_
  rintro v' R' O' _ ⟨_, rfl, f', rfl, h⟩
  exact hk f' h
theorem ui {e : TypeId} {zs : List Value} (hd : Nat.blt d n = true) (hz : ∀ w, ∃ z, (zeroValue e).run P w = .ok z w ∧ z.cells = zs.toArray) (hk : ∀ b, wo P ρ n ops Q rest (upd l d (.pointer (some ⟨b, 0, none⟩))) D R (box b zs e :: O)) :
    wo P ρ n ops Q (⟨some d, .alloc e, ty, pos, after, none⟩ :: rest) l D R O :=
  z0t hd (zen hz) fun v R' O' _ ⟨hR, b, hv, hO⟩ => by subst hR; subst hv; subst hO; exact hk b
theorem zs6 {e : TypeId} {x : Operand} {v : Value} {cs : List Value} (hd : Nat.blt d n = true) (hx : ev l x = v) (hv : v.cells = cs.toArray) (hk : ∀ b, wo P ρ n ops Q rest (upd l d (.pointer (some ⟨b, 0, none⟩))) D R (box b cs e :: O)) :
    wo P ρ n ops Q (⟨some d, .box e x, ty, pos, after, none⟩ :: rest) l D R O :=
  z0t hd (zjf hx hv) fun v R' O' _ ⟨hR, b, hv, hO⟩ => by subst hR; subst hv; subst hO; exact hk b
theorem z9j {α : Type} {T : Ty α} {e : TypeId} {x : Operand} {v : Value} {y : α} (hd : Nat.blt d n = true) (hx : ev l x = v) (hr : VRep T R v y) (hk : ∀ u R', RH.le R R' → PRep T R' u y → wo P ρ n ops Q rest (upd l d u) D R' O) :
    wo P ρ n ops Q (⟨some d, .box e x, ty, pos, after, none⟩ :: rest) l D R O :=
  z0t hd (znl hx hr) fun u R' O' hle ⟨hO, hp⟩ => by subst hO; exact hk u R' hle hp
theorem jf {t : TypeId} {x y : Operand} {b off i k : Nat} {cs vs : List Value} {bt : TypeId} {v : Value} (hs : ∀ w, (sizeOf t).run P w = .ok k w) (hx : ev l x = .pointer (some ⟨b, off, none⟩)) (hy : ev l y = v)
    (hv : v.cells = vs.toArray) (hn : vs.length = k) (hO : O[i]? = some (box b cs bt)) (hl : Nat.ble (off + vs.length) cs.length = true) (h1 : ∀ v ∈ vs, v.oneCell' = true) (hk : wo P ρ n ops Q rest l D R (O.set i (box b (over cs off vs) bt))) :
    wo P ρ n ops Q (⟨none, .store t x y, ty, pos, after, none⟩ :: rest) l D R O :=
  z9v (z1a hs hx hy hv hn hO (by simpa using hl) h1) fun v R' O' _ ⟨_, hR, hO⟩ => by subst hR; subst hO; exact hk
theorem z0j {α : Type} {T : Ty α} {z : α} {t e : TypeId} {bytes : Nat} {x y : Operand} {m c : Nat} {k k' : IntKind} (hd : Nat.blt d n = true) (hu : P.underlying t = some (.slice e)) (hz : ZeroOk P e T z bytes) (hx : ev l x = .int k m) (hy : ev l y = .int k' c)
    (hnc : m ≤ c) (hb : bytes * c ≤ 281474976710656) (hc : c ≤ 9223372036854775807) (hk : ∀ v f, capOf v = c → ORep T R f v (List.replicate m z) → wo P ρ n ops Q rest (upd l d v) D R (f :: O)) :
    wo P ρ n ops Q (⟨some d, .makeSlice t x y, ty, pos, after, none⟩ :: rest) l D R O :=
  z0t hd (iw hu hz hx hy hnc hb hc) fun v R' O' _ ⟨hR, hcap, f, hO, h⟩ => by subst hR; subst hO; exact hk v f hcap h
theorem mg {α : Type} {T : Ty α} {t e : TypeId} {z : α} {bytes m : Nat} {parts : List (Nat × Operand)} {ps : List (Nat × Value)} {css : List (List Value)} {X : List α} (hd : Nat.blt d n = true) (hu : P.underlying t = some (.slice e)) (hz : ZeroOk P e T z bytes)
    (hp : (parts.map fun x => (x.1, ev l x.2)) = ps) (hps : ps.map (fun p => (p.1, p.2.cells)) = css.zipIdx.map (fun x => (x.2, x.1.toArray))) (hX : ∀ (i : Nat) (c : List Value) (x : α), css[i]? = some c → X[i]? = some x → T.rep R c x)
    (hl : css.length = X.length) (hn : X.length = m) (hbig : m * T.size ≤ 16777216) (hk : ∀ v f, capOf v = X.length → ORep T R f v X → wo P ρ n ops Q rest (upd l d v) D R (f :: O)) :
    wo P ρ n ops Q (⟨some d, .buildSlice t m parts.toArray, ty, pos, after, none⟩ :: rest) l D R O :=
  z0t hd (z6p hu hz (by rw [List.map_toArray]; exact congrArg List.toArray hp) hps hX hl hn hbig) fun v R' O' _ ⟨hR, hcap, f, hO, h⟩ => by subst hR; subst hO; exact hk v f hcap h
theorem af {α : Type} {T : Ty α} {z : α} {bytes : Nat} {t e : TypeId} {x y : Operand} {v u : Value} {X Y : List α} {i : Nat} {f : Frag} (hd : Nat.blt d n = true)
    (hu : P.underlying t = some (.slice e)) (hz : ZeroOk P e T z bytes) (hx : ev l x = v) (hy : ev l y = u) (hO : O[i]? = some f) (hv : ORep T R f v X) (hu' : VRep (yj T) R u Y)
    (hb : (X.length + Y.length) * bytes ≤ 140737488355328) (hm : X.length + Y.length ≤ 9223372036854775807) (hk : ∀ v' f', ORep T R f' v' (X ++ Y) → wo P ρ n ops Q rest (upd l d v') D R (O.set i f')) :
    wo P ρ n ops Q (⟨some d, .call ⟨.builtin .append, #[x, y], #[t, t]⟩, ty, pos, after, none⟩ :: rest) l D R O :=
  z0t hd (z8j hu hz hx hy hO hv hu' hb hm) fun v' R' O' _ ⟨hR, f', hO', h⟩ => by subst hR; subst hO'; exact hk v' f' h
theorem z3s {args : List Operand} {vs : List Value} (ha : args.map (ev l) = vs) : args.toArray.map (ev l) = vs.toArray := by rw [List.map_toArray, ha]
theorem qx {f : FuncId} {args : List Operand} {at' : Array TypeId} {vs : List Value} {post : Value → RH → Prop} (hd : Nat.blt d n = true) (he : Enters P f) (ha : args.map (ev l) = vs) (h : CallP P f vs.toArray R post)
    (hk : ∀ v R', RH.le R R' → post v R' → wo P ρ n ops Q rest (upd l d v) D R' O) : wo P ρ n ops Q (⟨some d, .call ⟨.value (.func f), args.toArray, at'⟩, ty, pos, after, none⟩ :: rest) l D R O :=
  z0t hd (zam he rfl (z3s ha) (by simp) h) fun v R' O' hle ⟨hO, hp⟩ => by subst hO; exact hk v R' hle hp
theorem z9a {c : Operand} {args : List Operand} {at' : Array TypeId} {fv : Value} {vs : List Value} {Oc Or : List Frag} {post : Value → RH → List Frag → Prop} (hd : Nat.blt d n = true) (hc : ev l c = fv) (ha : args.map (ev l) = vs) (hp : O.Perm (Oc ++ Or)) (h : CallV P fv vs.toArray R Oc post)
    (hk : ∀ v R' Oc', RH.le R R' → post v R' Oc' → wo P ρ n ops Q rest (upd l d v) D R' (Oc' ++ Or)) : wo P ρ n ops Q (⟨some d, .call ⟨.value c, args.toArray, at'⟩, ty, pos, after, none⟩ :: rest) l D R O :=
  z0t hd (zkt hc (z3s ha) hp h) fun v R' O' hle ⟨Oc', hO, hpo⟩ => by subst hO; exact hk v R' Oc' hle hpo
theorem zab {α : Type} {T : Ty α} {t e : TypeId} {lo hi mx : Nat} {x : Operand} {xlo xhi xmx : Option Operand} {v : Value} {X : List α} (hd : Nat.blt d n = true) (ht : SlOk P t e T) (hx : ev l x = v) (hr : VRep (yj T) R v X)
    (hlo : xlo.map (ev l) = none ∧ lo = 0 ∨ ∃ k, xlo.map (ev l) = some (.int k lo)) (hhi : xhi.map (ev l) = none ∧ hi = X.length ∧ xmx = none ∨ ∃ k, xhi.map (ev l) = some (.int k hi))
    (hmx : xmx.map (ev l) = none ∧ mx = capOf v ∨ ∃ k, xmx.map (ev l) = some (.int k mx)) (h1 : lo ≤ hi) (h2 : hi ≤ X.length) (h3 : hi ≤ mx) (h4 : mx ≤ capOf v)
    {X' : List α} (hX : (X.drop lo).take (hi - lo) = X') (hk : ∀ u, VRep (yj T) R u X' → capOf u = mx - lo → wo P ρ n ops Q rest (upd l d u) D R O) : wo P ρ n ops Q (⟨some d, .slice t x xlo xhi xmx, ty, pos, after, none⟩ :: rest) l D R O := by
  obtain ⟨u, hu, hc, hv⟩ := zcf (P := P) (ρ := ρ) (O := O) ht hx hr hlo hhi hmx h1 h2 h3 h4
  rw [hX] at hu
  exact zf hd (hv _ _ _ _ _) (hk u hu hc)
theorem zm3 {α : Type} {T : Ty α} {v : Value} {X : List α} (h : VRep (yj T) R v X) : X.length ≤ capOf v := by
  obtain ⟨p, n, rfl, hn, _⟩ := bv.1 h
  exact hn
theorem uh {ρ : Option Nat} {dst : Option Tmp} {g : Option (Nat × Bool)} {t : TypeId} {parts : List (Nat × Operand)} {ps : List (Nat × Value)} {v : Value} (hp : (parts.map fun x => (x.1, ev l x.2)) = ps) (h : ∀ w, (Instr.build t ps.toArray).run P w = .ok v w) :
    Val P ρ ⟨dst, .build t parts.toArray, ty, pos, after, g⟩ l R O v := zlf (by rw [List.map_toArray]; exact congrArg List.toArray hp) h
theorem xw {ρ : Option Nat} {dst : Option Tmp} {g : Option (Nat × Bool)} {fn : Fn} {first captured : List Operand} {fs cs : List Value} (hf : first.map (ev l) = fs) (hc : captured.map (ev l) = cs) :
    Val P ρ ⟨dst, .makeFunc fn first.toArray captured.toArray, ty, pos, after, g⟩ l R O (.func fn fs.toArray cs.toArray) := zfm (z3s hf) (z3s hc)
def zj8 {α : Type} (T : Ty α) (R : RH) : List (List Value) → List α → Prop
  | [], [] => True
  | c :: cs, x :: xs => T.rep R c x ∧ zj8 T R cs xs
  | _, _ => False
theorem jr {α : Type} {T : Ty α} : ∀ {css : List (List Value)} {X : List α}, zj8 T R css X → ∀ (i : Nat) (c : List Value) (x : α), css[i]? = some c → X[i]? = some x → T.rep R c x
  | [], [], _, i, c, x, h, _ => by simp at h
  | c :: cs, y :: ys, h, i, c', x, h1, h2 => by
    cases i with
    | zero => simp at h1 h2; subst h1; subst h2; exact h.1
    | succ i => exact jr h.2 i c' x (by simpa using h1) (by simpa using h2)
theorem kw {t k : Nat} (h : (P.info? t).map (·.size) = some k) : ∃ i, P.info? t = some i ∧ i.size = k := by
  cases e : P.info? t with
  | none => rw [e] at h; cases h
  | some i => rw [e] at h; exact ⟨i, rfl, by simpa using h⟩
theorem z16 {e k b : Nat} {zv : Value} (h : (P.info? e).map (fun i => (i.zero, i.size, i.bytes)) = some (some zv, k, b)) : ∃ i u, P.info? e = some i ∧ i.zero = some u ∧ i.size = k ∧ i.bytes = b ∧ u = zv := by
  cases h' : P.info? e with
  | none => rw [h'] at h; cases h
  | some i => rw [h'] at h; simp at h; exact ⟨i, zv, rfl, h.1, h.2.1, h.2.2, rfl⟩
theorem z7b {w : World} {i b off : Nat} {cs : List Value} {bt t : TypeId} {v : Value} (hh : Holds R O w) (hO : O[i]? = some (box b cs bt)) (hv : cs[off]? = some v) (ht : ∀ w, (isAgg t).run P w = .ok false w) : (loadVar t ⟨b, off, none⟩).run P w = .ok v w := by
  have hblk : w.heap[b]? = some (.cells cs.toArray bt (0, 0)) := z0c hh hO (uj _ _)
  simp [loadVar, ht, cell_of_block hblk, hv]
theorem z2a {w : World} {i b off k : Nat} {cs vs : List Value} {bt t : TypeId} (hh : Holds R O w) (hO : O[i]? = some (box b cs bt)) (hv : (cs.drop off).take k = vs) (ht : ∀ w, (isAgg t).run P w = .ok true w) (hs : ∀ w, (sizeOf t).run P w = .ok k w) (hn : vs.length = k) (hl : Nat.ble (off + k) cs.length = true) :
    (loadVar t ⟨b, off, none⟩).run P w = .ok (.agg vs.toArray) w := by
  have hblk : w.heap[b]? = some (.cells cs.toArray bt (0, 0)) := z0c hh hO (uj _ _)
  have hle : off + k ≤ cs.toArray.size := by simpa using hl
  simp [loadVar, ht, hs, run_loadCells hblk hle, wu, hv]
end wo
/-! ### Loops -/
def mask (W : List Nat) (j l : Nat → Value) : Nat → Value := fun i => bif W.elem i then j i else l i
def Off (W : List Nat) (l l0 : Nat → Value) : Prop := ∀ i, W.elem i = false → l i = l0 i
theorem zgv {W : List Nat} {j l : Nat → Value} : Off W (mask W j l) l := fun i h => by unfold mask; rw [h]; rfl
theorem zj6 {W : List Nat} {l l0 : Nat → Value} {d : Nat} {v : Value} (hd : W.elem d = true) (h : Off W l l0) : Off W (upd l d v) l0 := fun i hi => by
  have hne : Nat.beq i d = false := by
    cases e : Nat.beq i d
    · rfl
    · rw [Nat.eq_of_beq_eq_true e, hd] at hi; cases hi
  simp only [upd, hne, cond_false]
  exact h i hi
theorem zcw {W : List Nat} {l l0 : Nat → Value} : ∀ {L : List (Nat × Value)}, (L.all fun p => W.elem p.1) = true → Off W l l0 → Off W (z1g l L) l0
  | [], _, h => h
  | (d, v) :: r, hL, h => by
    simp only [List.all_cons, Bool.and_eq_true] at hL
    exact zj6 hL.1 (zcw hL.2 h)
theorem zh0 {W : List Nat} {l : Nat → Value} : Off W l l := fun _ _ => rfl
theorem zek {W : List Nat} {l l' l0 : Nat → Value} (h : Off W l l') (k : Off W l' l0) : Off W l l0 := fun i hi => (h i hi).trans (k i hi)
theorem zqd {W W' : List Nat} {l l0 : Nat → Value} (hs : (W'.all fun x => W.elem x) = true) (h : Off W' l l0) : Off W l l0 := fun i hi => h i (by
  cases e : W'.elem i
  · rfl
  · have := List.all_eq_true.1 hs i (List.elem_iff.1 e)
    rw [hi] at this; cases this)
theorem zg1 {W : List Nat} {l l0 : Nat → Value} (h : Off W l l0) : l = mask W l l0 := by
  funext i
  unfold mask
  cases e : W.elem i
  · exact h i e
  · rfl
def zib (l : Nat → Value) : List (Nat × Value) → Prop
  | [] => True
  | (d, v) :: r => l d = v ∧ zib l r
theorem zg5 {l : Nat → Value} : ∀ {L : List (Nat × Value)}, zib l L → ∀ p ∈ L, l p.1 = p.2
  | [], _, p, hp => by cases hp
  | (d, v) :: r, h, p, hp => by
    rcases List.mem_cons.1 hp with rfl | hp
    · exact h.1
    · exact zg5 h.2 p hp
theorem oo {P : Program} {ρ : Option Nat} {l : Nat → Value} {R : RH} {O : List Frag} {dst : Option Tmp} {ty : TypeId} {pos : String} {after : Array Edge} {g : Option (Nat × Bool)} {c x y : Operand} {b b' : Bool} (hc : ev l c = .bool b) (hx : ev l x = .bool true) (hy : b = false → ev l y = .bool b') :
    Val P ρ ⟨dst, .pick c x y, ty, pos, after, g⟩ l R O (.bool (b || b')) := by
  cases b
  · exact z4v hc (by rw [hy rfl]; rfl)
  · exact z4v hc (by rw [hx]; rfl)
theorem gy {P : Program} {ρ : Option Nat} {l : Nat → Value} {R : RH} {O : List Frag} {dst : Option Tmp} {ty : TypeId} {pos : String} {after : Array Edge} {g : Option (Nat × Bool)} {c x y : Operand} {b b' : Bool} (hc : ev l c = .bool b) (hx : b = true → ev l x = .bool b') (hy : ev l y = .bool false) :
    Val P ρ ⟨dst, .pick c x y, ty, pos, after, g⟩ l R O (.bool (b && b')) := by
  cases b
  · exact z4v hc (by rw [hy]; rfl)
  · exact z4v hc (by rw [hx rfl]; rfl)
theorem zfa {W W' : List Nat} {j l l0 : Nat → Value} (hs : (W'.all fun x => W.elem x) = true) (h : Off W l l0) : Off W (mask W' j l) l0 := zek (zqd hs zgv) h
theorem zm {l : Nat → Value} {x : Operand} {k : IntKind} {t : Int} (h : ev l x = .int k t) (h0 : 0 ≤ t) : ev l x = .int k (t.toNat : Int) := by rw [h, Int.toNat_of_nonneg h0]
theorem z3f {P : Program} {ρ : Option Nat} {n : Nat} {Q : Po} {l : Nat → Value} {D : List Nat} {R : RH} {O : List Frag} {c : Code} (k : wg P ρ n c Q l D R (emp :: O)) : wg P ρ n c Q l D R O :=
  zpf (fun A w h => ⟨h.ro, fun f hf i o ho => by
      rcases List.mem_cons.1 hf with rfl | hf
      · cases ho
      · exact h.own f hf i o ho, List.pairwise_cons.2 ⟨fun f _ i => .inl rfl, h.sep⟩, h.os, h.out⟩) k
theorem z0d {α : Type} {T : Ty α} {R : RH} : ORep T R emp (.slice none 0 0) [] := .inl ⟨rfl, rfl, rfl⟩
section phis
variable {P : Program} {ρ : Option Nat} {l : Nat → Value} {R : RH} {O : List Frag} {dst : Option Tmp} {ty : TypeId} {pos : String} {after : Array Edge} {g : Option (Nat × Bool)}
theorem zl {o : Oper} {v : Value} (h : Val P ρ o l R O v) : Eff P ρ o l R O (fun v' R' O' => O' = O ∧ phX v v' R') := h.eff.mono fun v' R' O' _ ⟨a, _, c⟩ => ⟨c, a⟩
theorem qy {α : Type} {T : Ty α} {t : TypeId} {x : Operand} {v : Value} {y : α} (ht : TyOk P t T) (hx : ev l x = v) (hp : PRep T R v y) : Eff P ρ ⟨dst, .load t x, ty, pos, after, g⟩ l R O (fun v' R' O' => O' = O ∧ phR T y v' R') :=
  let ⟨u, hu, hv⟩ := zad (ρ := ρ) (O := O) ht hx hp
  (hv dst ty pos after g).eff.mono fun v' R' O' _ ⟨a, b, c⟩ => by subst a; subst b; exact ⟨c, hu⟩
theorem u7 {α β : Type} {A : Ty α} {B : Ty β} {s : TypeId} {x : Operand} {f o : Nat} {v : Value} {y : α} {pr : α → β} (hf : FieldOk P s f o) (hpart : Part A o B pr) (hx : ev l x = v) (hp : PRep A R v y) :
    Eff P ρ ⟨dst, .fieldAddr s x f, ty, pos, after, g⟩ l R O (fun v' R' O' => O' = O ∧ phP B (pr y) v' R') :=
  let ⟨u, hu, hv⟩ := zde (ρ := ρ) (O := O) hf hpart hx hp
  (hv dst ty pos after g).eff.mono fun v' R' O' _ ⟨a, b, c⟩ => by subst a; subst b; exact ⟨c, hu⟩
theorem wz {α : Type} [Inhabited α] {T : Ty α} {t e : TypeId} {x ix : Operand} {v : Value} {X : List α} {k : IntKind} {i : Nat} (ht : SlOk P t e T) (hx : ev l x = v) (hr : VRep (yj T) R v X) (hi : ev l ix = .int k i) (hy : i < X.length) :
    Eff P ρ ⟨dst, .indexAddr t x ix, ty, pos, after, g⟩ l R O (fun v' R' O' => O' = O ∧ phP T (X.getD i default) v' R') :=
  let ⟨u, hu, hv⟩ := zc7 (ρ := ρ) (O := O) ht hx hr hi (getD_some hy)
  (hv dst ty pos after g).eff.mono fun v' R' O' _ ⟨a, b, c⟩ => by subst a; subst b; exact ⟨c, hu⟩
theorem ym {f : FuncId} {args : List Operand} {at' : Array TypeId} {vs : List Value} {post φ : Value → RH → Prop} (he : Enters P f) (ha : args.map (ev l) = vs) (h : CallP P f vs.toArray R post) (hp : ∀ v R', post v R' → φ v R') :
    Eff P ρ ⟨dst, .call ⟨.value (.func f), args.toArray, at'⟩, ty, pos, after, g⟩ l R O (fun v' R' O' => O' = O ∧ φ v' R') :=
  (zam he rfl (z3s ha) (by simp) h).mono fun v R' O' _ ⟨a, b⟩ => ⟨a, hp _ _ b⟩
theorem jg {o : Oper} {α : Type} {T : Ty α} {x : α} {v0 : Value} (h : Eff P ρ o l R O (fun v' R' O' => O' = O ∧ phR T x v' R')) (hv : ∀ R v, VRep T R v x → v = v0) : Eff P ρ o l R O (fun v' R' O' => O' = O ∧ phX v0 v' R') :=
  h.mono fun v R' O' _ ⟨a, b⟩ => ⟨a, hv _ _ b⟩
theorem zle {α : Type} {T : Ty α} {t e : TypeId} {lo hi mx : Nat} {x : Operand} {xlo xhi xmx : Option Operand} {v : Value} {X X' : List α} (ht : SlOk P t e T) (hx : ev l x = v) (hr : VRep (yj T) R v X)
    (hlo : xlo.map (ev l) = none ∧ lo = 0 ∨ ∃ k, xlo.map (ev l) = some (.int k lo)) (hhi : xhi.map (ev l) = none ∧ hi = X.length ∧ xmx = none ∨ ∃ k, xhi.map (ev l) = some (.int k hi))
    (hmx : xmx.map (ev l) = none ∧ mx = capOf v ∨ ∃ k, xmx.map (ev l) = some (.int k mx)) (h1 : lo ≤ hi) (h2 : hi ≤ X.length) (h3 : X.length ≤ capOf v → hi ≤ mx) (h4 : X.length ≤ capOf v → mx ≤ capOf v) (hX : (X.drop lo).take (hi - lo) = X') :
    Eff P ρ ⟨dst, .slice t x xlo xhi xmx, ty, pos, after, g⟩ l R O (fun v' R' O' => O' = O ∧ phR (yj T) X' v' R') := by
  obtain ⟨u, hu, hc, hv⟩ := zcf (P := P) (ρ := ρ) (O := O) ht hx hr hlo hhi hmx h1 h2 (h3 (zm3 hr)) (h4 (zm3 hr))
  rw [hX] at hu
  exact (hv dst ty pos after g).eff.mono fun v' R' O' _ ⟨a, b, c⟩ => by subst a; subst b; exact ⟨c, hu⟩
theorem yx {α : Type} {T : Ty α} {t e : TypeId} {x ix : Operand} {v : Value} {X : List α} {k : IntKind} {i : Nat} {f : Frag} (ht : SlOk P t e T) (hx : ev l x = v) (hr : ORep T R f v X) (hi : ev l ix = .int k i) (hy : i < X.length) :
    Eff P ρ ⟨dst, .indexAddr t x ix, ty, pos, after, g⟩ l R O (fun v' R' O' => O' = O ∧ (fun u _ => z1m T v X u i) v' R') :=
  let ⟨b, off, h1, hv⟩ := zd8 (ρ := ρ) (O := O) ht hx hr hi hy
  (hv dst ty pos after g).eff.mono fun v' R' O' _ ⟨a, _, c⟩ => by subst a; exact ⟨c, b, off, h1, rfl⟩
theorem ry {α : Type} [Inhabited α] {T : Ty α} {t : TypeId} {x : Operand} {f : Frag} {v u : Value} {X : List α} {i j : Nat} (ht : TyOk P t T) (hv : ORep T R f v X) (hO : O[j]? = some f) (hx : ev l x = u) (hp : z1m T v X u i) (hy : i < X.length) :
    Eff P ρ ⟨dst, .load t x, ty, pos, after, g⟩ l R O (fun v' R' O' => O' = O ∧ phR T (X.getD i default) v' R') := by
  obtain ⟨b, off, h1, rfl⟩ := hp
  obtain ⟨y, hy', hl⟩ := ze3 (ρ := ρ) (P := P) ht hv h1 hO hx (getD_some hy)
  exact (hl dst ty pos after g).eff.mono fun v' R' O' _ ⟨a, b, c⟩ => by subst a; subst b; exact ⟨c, hy'⟩
theorem z8r {α : Type} {T : Ty α} {o : Oper} {v : Value} {X : α} (h : Val P ρ o l R O v) (hr : VRep T R v X) : Eff P ρ o l R O (fun v' R' O' => O' = O ∧ phR T X v' R') :=
  h.eff.mono fun v' R' O' _ ⟨a, b, c⟩ => by subst a; subst b; exact ⟨c, hr⟩
end phis
theorem Val.phi {P : Program} {ρ : Option Nat} {o : Oper} {l : Nat → Value} {R : RH} {O : List Frag} {v : Value} {φ : Value → RH → Prop} (h : Val P ρ o l R O v) (hp : φ v R) : Eff P ρ o l R O (fun v' R' O' => O' = O ∧ φ v' R') :=
  h.eff.mono fun v' R' O' _ ⟨a, b, c⟩ => by subst a; subst b; exact ⟨c, hp⟩
end GV
end Go.Proofs.Ytplgbkaollfmkaa

namespace Go.Proofs.Ytplgbkaollfmkaa
namespace GV
structure Edge where
  to : Int
  out : Int
  deriving DecidableEq, Inhabited
structure Mach where
  inputs : Int
  outputs : Int
  rows : List (List Edge)
  deriving DecidableEq, Inhabited
end GV
end Go.Proofs.Ytplgbkaollfmkaa

namespace Go.Proofs.Ytplgbkaollfmkaa
namespace GV
section mid
variable {P : Program} {ρ : Option Nat} {n : Nat} {Q : Po} {D : List Nat} {gs : List Oper} {φs : List (Value → RH → Prop)} {l0 : Nat → Value} {R0 : RH} {O : List Frag} {ms : Nat} {Os : Bool → List Frag → Prop}
theorem zg2 {l : Nat → Value} (h : Agree gs l0 l) : l = z1g l0 (gs.filterMap fun o => o.dst.map fun d => (d, l d)) := by
  have key : ∀ (os : List Oper) s, z1g l0 (os.filterMap fun o => o.dst.map fun d => (d, l d)) s = if s ∈ os.filterMap (·.dst) then l s else l0 s := by
    intro os
    induction os with
    | nil => intro s; simp [z1g]
    | cons o os ih =>
      intro s
      cases hd : o.dst with
      | none => simp only [List.filterMap_cons, hd, Option.map_none]; exact ih s
      | some d =>
        simp only [List.filterMap_cons, hd, Option.map_some, z1g]
        unfold upd
        by_cases e : s = d
        · subst e; simp
        · have : Nat.beq s d = false := by
            cases hb : Nat.beq s d
            · rfl
            · exact absurd (Nat.eq_of_beq_eq_true hb) e
          rw [this]
          simp only [cond_false, ih s, List.mem_cons, e, false_or]
  funext s
  rw [key gs s]
  split
  · rfl
  · rename_i hn
    exact h s (by simpa [z9r] using hn)
structure MJ (gs : List Oper) (φs : List (Value → RH → Prop)) (l0 : Nat → Value) (R0 : RH) (Os : Bool → List Frag → Prop) (ms n : Nat) (D : List Nat) (listed : Array Bool) (a : Act) (w : World) : Prop where
  ex : ∃ l R O', Fr n l D a ∧ Holds R (O' ++ D.map z0o) w ∧ RH.le R0 R ∧ Os (listed.getD ms false) O' ∧ Agree gs l0 l ∧ (∀ i d, listed.getD i false = true → vz gs i = some d → phi φs i (l d) R)
end mid
def Pred1 (P : Program) (R : RH) (fv : Value) {α : Type} (val : α → Value) (p : α → Bool) (X : List α) : Prop :=
  ∀ R', RH.le R R' → ∀ x ∈ X, CallV P fv [val x].toArray R' [] (fun v _ O => O = [] ∧ v = .bool (p x))
theorem Pred1.mono {P : Program} {R R' : RH} {fv : Value} {α : Type} {val : α → Value} {p : α → Bool} {X : List α} (h : Pred1 P R fv val p X) (hle : RH.le R R') : Pred1 P R' fv val p X := fun R2 hle2 => h R2 (hle.trans hle2)
def Pred2 (P : Program) (R : RH) (fv : Value) {α : Type} (T : Ty α) (p : α → α → Bool) (S : α → α → Prop) : Prop :=
  ∀ R', RH.le R R' → ∀ x y u v, S x y → VRep T R' u x → VRep T R' v y → CallV P fv [u, v].toArray R' [] (fun v _ O => O = [] ∧ v = .bool (p x y))
theorem Pred2.mono {P : Program} {R R' : RH} {fv : Value} {α : Type} {T : Ty α} {p : α → α → Bool} {S : α → α → Prop} (h : Pred2 P R fv T p S) (hle : RH.le R R') : Pred2 P R' fv T p S := fun R2 hle2 => h R2 (hle.trans hle2)
theorem l5 {α : Type} [Inhabited α] {X : List α} {i : Nat} (h : i < X.length) : X.getD i default ∈ X := List.mem_of_getElem? (getD_some h)
section eq2
variable {P : Program}
theorem z4x {t : TypeId} {k : IntKind} (hu : P.underlying t = some (.int k)) {cs : Array Value} {off : Nat} {v : Value} (h : cs[off]? = some v) (w : World) : (part t cs off).run P w = .ok v w := by
  have : (isAgg t).run P w = .ok false w := by simp [isAgg, underlying, hu]
  simp [part, this, h]
theorem zf4 {t : TypeId} (hm : P.eqGuardType P.depth t = false) (ht : P.underlying t = some (.struct (P.fieldsOf t))) (hp : P.stoodInHeld t = false) {f0 f1 : Field} (hfs : (P.fieldsOf t).toList = [f0, f1])
    (n0 : (f0.name == "_") = false) (n1 : (f1.name == "_") = false) (t0 : P.underlying f0.type = some (.int .i64)) (t1 : P.underlying f1.type = some (.int .i64)) (o0 : f0.offset = 0) (o1 : f1.offset = 1) : zep P t := by
  intro a b c d x y w
  have n0' : f0.name ≠ "_" := by simpa using n0
  have n1' : f1.name ≠ "_" := by simpa using n1
  rw [Sem.run_bind, run_eqGuard_agg w .eql t x y _ _ hm, Result.andThen_ok, run_eql_struct, run_equalIn_agg w 9999 t _ _ ht hp, hfs]
  simp only [Op.eqFields, n0', n1', ne_eq, not_false_eq_true, if_true, Sem.run_bind, o0, o1]
  rw [z4x t0 (v := .int .i64 a) rfl, Result.andThen_ok, z4x t0 (v := .int .i64 c) rfl, Result.andThen_ok, run_equalIn_int w 9998 _ _ _ _ _ t0, Result.andThen_ok]
  cases hac : (a == c)
  · simp
  · rw [if_neg (by decide : ¬ (!true) = true)]
    simp only [Sem.run_bind]
    rw [z4x t1 (v := .int .i64 b) rfl, Result.andThen_ok, z4x t1 (v := .int .i64 d) rfl, Result.andThen_ok, run_equalIn_int w 9998 _ _ _ _ _ t1, Result.andThen_ok]
    cases hbd : (b == d) <;> simp
theorem zaf {t e : TypeId} (d : Nat) (a b c x : Int) (w : World) (ht : P.underlying t = some (.array 2 e)) (te : P.underlying e = some (.int .i64)) (se : ∀ w, (sizeOf e).run P w = .ok 1 w) :
    (Op.equalIn (d + 2) t (.agg #[.int .i64 a, .int .i64 b]) (.agg #[.int .i64 c, .int .i64 x])).run P w = .ok (a == c && b == x) w := by
  have h0 : ∀ (x y : Int) (w : World), (part e #[.int .i64 x, .int .i64 y] 0).run P w = .ok (.int .i64 x) w := fun x y w => z4x te rfl w
  have h1 : ∀ (x y : Int) (w : World), (part e #[.int .i64 x, .int .i64 y] 1).run P w = .ok (.int .i64 y) w := fun x y w => z4x te rfl w
  rw [Op.equalIn]
  simp only [Sem.run_bind, run_underlying ht, Result.andThen_ok, se]
  simp only [Std.Legacy.Range.forIn_eq_forIn_range', Std.Legacy.Range.size, show (2 - 0 + 1 - 1) / 1 = 2 from rfl, List.range'_succ, List.range'_zero, List.forIn_cons, List.forIn_nil, Sem.run_bind, Nat.zero_mul, Nat.zero_add, Nat.one_mul]
  rw [h0, Result.andThen_ok, h0, Result.andThen_ok, run_equalIn_int w d _ _ _ _ _ te, Result.andThen_ok]
  cases hac : (a == c)
  · simp
  · simp only [Bool.not_true, Bool.false_eq_true, if_false, Sem.run_bind, Sem.run_pure, Result.andThen_ok]
    rw [h1, Result.andThen_ok, h1, Result.andThen_ok, run_equalIn_int w d _ _ _ _ _ te, Result.andThen_ok]
    cases hbd : (b == x) <;> simp
theorem zgc {t e : TypeId} (hm : P.eqGuardType P.depth t = false) (ht : P.underlying t = some (.array 2 e)) (te : P.underlying e = some (.int .i64)) (se : ∀ w, (sizeOf e).run P w = .ok 1 w) : zep P t := by
  intro a b c d x y w
  rw [Sem.run_bind, run_eqGuard_agg w .eql t x y _ _ hm, Result.andThen_ok, run_eql_struct, zaf 9998 a b c d w ht te se]
  rfl
end eq2
theorem zq {a b w : Bool} (h : a = true) (hb : b = w) : (a && (b == w)) = true := by simp [h, hb]
end GV
end Go.Proofs.Ytplgbkaollfmkaa

namespace Go.Proofs.Ytplgbkaollfmkaa
namespace GV
theorem vo {α : Type} {T : Ty α} {R : RH} {f : Frag} {v : Value} {X : List α} (h : ORep T R f v X) : v.oneCell' = true := by
  rcases h with ⟨rfl, _, _⟩ | ⟨b, pre, cs, cap, ty, rfl, _⟩ <;> rfl
theorem bz {α : Type} {T : Ty α} {R : RH} {f : Frag} {v : Value} {X : List α} (h : ORep T R f v X) : v.cells = ([v] : List Value).toArray := by
  rcases h with ⟨rfl, _, _⟩ | ⟨b, pre, cs, cap, ty, rfl, _⟩ <;> rfl
theorem znk {α : Type} {T : Ty α} {R : RH} {v : Value} {X : List α} (h : VRep (yj T) R v X) : v.oneCell' = true := by
  obtain ⟨p, n, rfl, _⟩ := bv.1 h; rfl
theorem zj1 {α : Type} {T : Ty α} {R : RH} {v : Value} {X : List α} (h : VRep (yj T) R v X) : v.cells = ([v] : List Value).toArray := by
  obtain ⟨p, n, rfl, _⟩ := bv.1 h; rfl
theorem jl : ∀ v ∈ ([] : List Value), v.oneCell' = true := fun _ h => by cases h
theorem qa {v : Value} {vs : List Value} (h : v.oneCell' = true) (k : ∀ u ∈ vs, u.oneCell' = true) : ∀ u ∈ v :: vs, u.oneCell' = true := fun u hu => by
  rcases List.mem_cons.1 hu with rfl | hu
  · exact h
  · exact k u hu
section eqb
variable {P : Program} {ρ : Option Nat} {l : Nat → Value} {R : RH} {O : List Frag} {dst : Option Tmp} {ty : TypeId} {pos : String} {after : Array Go.Edge} {g : Option (Nat × Bool)}
theorem zmp {t t' : TypeId} {x y : Operand} {a b : Bool} (hu : P.underlying t = some .bool) (hx : ev l x = .bool a) (hy : ev l y = .bool b) : Val P ρ ⟨dst, .binOp .eql t x y t', ty, pos, after, g⟩ l R O (.bool (decide (a = b))) := by
  intro A w _; rw [qw (by intro c h; cases h)]
  have hg : (eqGuard .eql t x y (.bool a) (.bool b)).run P w = .ok () w := by simp [eqGuard]
  simp only [execOp, hx, hy, Sem.run_bind, hg, Result.andThen_ok, run_eql_bool w t a b hu]
  cases a <;> cases b <;> rfl
theorem zmo {t t' : TypeId} {x y : Operand} {a b : Bool} (hu : P.underlying t = some .bool) (hx : ev l x = .bool a) (hy : ev l y = .bool b) : Val P ρ ⟨dst, .binOp .neq t x y t', ty, pos, after, g⟩ l R O (.bool (decide (a ≠ b))) := by
  intro A w _; rw [qw (by intro c h; cases h)]
  have hg : (eqGuard .neq t x y (.bool a) (.bool b)).run P w = .ok () w := by simp [eqGuard]
  simp only [execOp, hx, hy, Sem.run_bind, hg, Result.andThen_ok, run_neq_bool w t a b hu]
  cases a <;> cases b <;> rfl
end eqb
theorem Eff.frz {P : Program} {ρ : Option Nat} {o : Oper} {l : Nat → Value} {R : RH} {O : List Frag} {α : Type} {T : Ty α} {X : List α} (h : Eff P ρ o l R O fun v R' O' => ∃ f, O' = f :: O ∧ ORep T R' f v X) : Eff P ρ o l R O fun v R' O' => O' = O ∧ phR (yj T) X v R' := by
  intro A w hh
  refine z4t (h A w hh) ?_
  rintro v w' ⟨R', O', hle, hh', f, rfl, ho⟩
  exact ⟨R'.add f, O, hle.trans (RH.le_add _ _), z1e hh', rfl, z2p ho hh'⟩
def zsa (L : Loop) (n : Nat) (l : Nat → Value) (ps : List Nat) (assign body : Code) : Prop := FrT n l L.tmps ∧ L.params = ps.toArray ∧ L.assign = assign ∧ L.body = body
theorem ze0 {J Oc A : List Frag} : (J ++ (Oc ++ A)).Perm (Oc ++ (J ++ A)) := by
  rw [← List.append_assoc, ← List.append_assoc]; exact List.perm_append_comm.append_right A
theorem zpn {P : Program} {ρ : Option Nat} {n : Nat} {Q : Po} {l : Nat → Value} {D : List Nat} {R : RH} {O O' : List Frag} {ops : Array Oper} {rest : List Oper} (hp : O'.Perm O) (h : wo P ρ n ops Q rest l D R O') : wo P ρ n ops Q rest l D R O :=
  fun a w hf hh => h a w hf (yc hh (hp.symm.append_right _))
end GV
end Go.Proofs.Ytplgbkaollfmkaa

namespace Go.Proofs.Ytplgbkaollfmkaa
namespace GV
def Has (F f : Frag) : Prop := ∀ k o, f k = some o → F k = some o
def Apart (f g : Frag) : Prop := ∀ k, f k = none ∨ g k = none
def zh7 (f g : Frag) : Frag := fun k => match f k with | some o => some o | none => g k
theorem Apart.symm {f g : Frag} (h : Apart f g) : Apart g f := fun k => (h k).symm
theorem zlz {f g : Frag} : Has (zh7 f g) f := fun k o h => by unfold zh7; rw [h]
theorem zdv {f g : Frag} (h : Apart f g) : Has (zh7 f g) g := fun k o hk => by
  unfold zh7
  rcases h k with h1 | h1
  · rw [h1]; exact hk
  · rw [h1] at hk; cases hk
theorem Has.trans {a b c : Frag} (h : Has a b) (k : Has b c) : Has a c := fun i o hi => h i o (k i o hi)
theorem Has.apart {f g g' : Frag} (h : Has g g') (ha : Apart f g) : Apart f g' := fun k => by
  cases e : g' k with
  | none => exact .inr rfl
  | some o => rcases ha k with h1 | h1
              · exact .inl h1
              · rw [h k o e] at h1; cases h1
def znx : Ty Value where
  size := 1
  agg := false
  rep R cs v := cs = [v] ∧ v.oneCell' = true
  len := by rintro R cs x ⟨rfl, _⟩; rfl
  mono := by rintro R R' cs x _ h; exact h
  one _ := rfl
  cell := by
    rintro R cs x ⟨rfl, h⟩ v hv
    rw [List.mem_singleton.1 hv]; exact h
def Rows {α : Type} (T : Ty α) (R : RH) (G : Frag) (Vs : List Value) (X : List (List α)) (Fs : List Frag) (no : Nat → Prop) : Prop :=
  Fs.length = X.length ∧ (∀ j, j < X.length → ¬ no j → ORep T R (Fs.getD j emp) (Vs.getD j default) (X.getD j default) ∧ Has G (Fs.getD j emp)) ∧
    ∀ i j, i < X.length → j < X.length → ¬ no i → ¬ no j → i ≠ j → Apart (Fs.getD i emp) (Fs.getD j emp)
def O2 {α : Type} (T : Ty α) (R : RH) (F : Frag) (v : Value) (X : List (List α)) : Prop :=
  ∃ Vs f0 Fs, Vs.length = X.length ∧ ORep znx R f0 v Vs ∧ Has F f0 ∧ Rows T R F Vs X Fs (fun _ => False) ∧ ∀ j, j < X.length → Apart f0 (Fs.getD j emp)
theorem Rows.mono {α : Type} {T : Ty α} {R R' : RH} {G : Frag} {Vs : List Value} {X : List (List α)} {Fs : List Frag} {no : Nat → Prop} (h : Rows T R G Vs X Fs no) (hle : RH.le R R') : Rows T R' G Vs X Fs no :=
  ⟨h.1, fun j hj hn => ⟨(h.2.1 j hj hn).1.mono hle, (h.2.1 j hj hn).2⟩, h.2.2⟩
theorem O2.mono {α : Type} {T : Ty α} {R R' : RH} {F : Frag} {v : Value} {X : List (List α)} (h : O2 T R F v X) (hle : RH.le R R') : O2 T R' F v X :=
  let ⟨Vs, f0, Fs, a, b, c, d, e⟩ := h; ⟨Vs, f0, Fs, a, b.mono hle, c, d.mono hle, e⟩
theorem z98 {β : Type} {X : List β} {k j : Nat} {y d : β} (hk : k < X.length) : (X.set k y).getD j d = if j = k then y else X.getD j d := by
  simp only [List.getD_eq_getElem?_getD, List.getElem?_set]
  by_cases h : k = j
  · subst h; simp [hk]
  · rw [if_neg h, if_neg (fun e => h e.symm)]
section laws
variable {P : Program} {ρ : Option Nat} {n : Nat} {Q : Po} {l : Nat → Value} {D : List Nat} {R : RH} {O : List Frag} {ops : Array Oper} {os : List Oper} {c : Code}
end laws
def zcr : Value → Bool
  | .slice none _ _ => true
  | _ => false
theorem zno {α : Type} {T : Ty α} {R : RH} {v : Value} {X : List α} (h : VRep (yj T) R v X) (hn : zcr v = true) : X = [] := by
  obtain ⟨p, n, rfl, _, hp, _⟩ := bv.1 h
  cases p with
  | none => exact hp rfl
  | some a => cases hn
theorem zl4 {P : Program} {t e : TypeId} {v : Value} {w : World} (hu : P.underlying t = some (.slice e)) (hv : ∃ p k c, v = .slice p k c) : (Op.equal t v (.slice none 0 0)).run P w = .ok (zcr v) w := by
  obtain ⟨p, k, c, rfl⟩ := hv
  show (Op.equalIn (9999 + 1) t _ _).run P w = _
  generalize 9999 = d
  cases p <;> simp [Op.equalIn, run_underlying hu, zcr]
section eqnil
variable {P : Program} {ρ : Option Nat} {l : Nat → Value} {R : RH} {O : List Frag} {dst : Option Tmp} {ty : TypeId} {pos : String} {after : Array Go.Edge} {g : Option (Nat × Bool)}
theorem zl1 {t t' e : TypeId} {x y : Operand} {v : Value} (hu : P.underlying t = some (.slice e)) (hx : ev l x = v) (hy : ev l y = .slice none 0 0) (hv : ∃ p k c, v = .slice p k c) : Val P ρ ⟨dst, .binOp .eql t x y t', ty, pos, after, g⟩ l R O (.bool (zcr v)) := by
  intro A w _; rw [qw (by intro c h; cases h)]
  have h := zl4 (w := w) hu hv
  obtain ⟨p, k, c, rfl⟩ := hv
  have hg : (eqGuard .eql t x y (.slice p k c) (.slice none 0 0)).run P w = .ok () w := by simp [eqGuard]
  simp only [execOp, hx, hy, Sem.run_bind, hg, Result.andThen_ok]
  have : (binOp .eql t (.slice p k c) (.slice none 0 0)).run P w = .ok (.bool (zcr (.slice p k c))) w := by
    simp only [binOp, Sem.run_bind, h, Result.andThen_ok, Sem.run_pure]
  rw [this]; rfl
end eqnil
theorem zms {α : Type} {T : Ty α} {R : RH} {v : Value} {X : List α} (h : VRep (yj T) R v X) : ∃ p k c, v = .slice p k c := by
  obtain ⟨p, n, rfl, _⟩ := bv.1 h; exact ⟨_, _, _, rfl⟩
end GV
end Go.Proofs.Ytplgbkaollfmkaa
