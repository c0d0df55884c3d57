/- A region that draws its order and in which one store may come before other operations. -/
import Derived.Test.YtohjnbajgbdhhaaGvData
namespace Go.Proofs.Ytohjnbajgbdhhaa
namespace GV
set_option linter.unusedVariables false

section mid
variable {P : Program} {ρ : Option Nat} {n : Nat} {Q : Po} {D : List Nat} {gs : List Oper} {φs : List (Value → RH → Prop)} {l0 : Nat → Value} {R0 : RH} {O : List Frag} {ms : Nat} {Os : Bool → List Frag → Prop}

def midOk (gs : List Oper) (ms n : Nat) : Bool :=
  (gs.zipIdx.all fun (o, i) => o.guard.isNone && (Nat.beq i ms || match o.dst with | some d => Nat.blt d n | none => false) && (!Nat.beq i ms || o.dst.isNone)) &&
  decide (dsts gs).Nodup && (gs.zipIdx.all fun (o, i) => o.after.all fun e => !Region.binds .any e || Nat.blt e.on i) && Nat.blt ms gs.length
theorem midOk_spec (h : midOk gs ms n = true) : (∀ (i : Nat) o, gs[i]? = some o → o.guard = none ∧ (i ≠ ms → ∃ d, o.dst = some d ∧ d < n) ∧ (i = ms → o.dst = none)) ∧ (dsts gs).Nodup ∧
    (∀ (i : Nat) o, gs[i]? = some o → ∀ e ∈ o.after, Region.binds .any e = true → e.on < i) ∧ ms < gs.length := by
  simp only [midOk, Bool.and_eq_true, List.all_eq_true, decide_eq_true_eq] at h
  obtain ⟨⟨⟨h1, h2⟩, h3⟩, h4⟩ := h
  have mem : ∀ (i : Nat) o, gs[i]? = some o → (o, i) ∈ gs.zipIdx := fun i o ho => by
    rw [List.mem_iff_getElem?]; exact ⟨i, by rw [List.getElem?_zipIdx, ho]; simp⟩
  refine ⟨fun i o ho => ?_, h2, fun i o ho e he hb => ?_, by simpa using h4⟩
  · obtain ⟨⟨g1, g2⟩, g3⟩ := h1 _ (mem i o ho)
    refine ⟨by simpa using g1, fun hne => ?_, fun he => ?_⟩
    · have : Nat.beq i ms = false := by
        cases hb : Nat.beq i ms
        · rfl
        · exact absurd (Nat.eq_of_beq_eq_true hb) hne
      rw [this] at g2
      cases hd : o.dst with
      | none => rw [hd] at g2; simp at g2
      | some d => rw [hd] at g2; exact ⟨d, rfl, by simpa using g2⟩
    · subst he; rw [Nat.beq_refl] at g3; simpa using g3
  · have := h3 _ (mem i o ho)
    simp only [Array.all_eq_true_iff_forall_mem] at this
    simpa [hb] using this e he

/-- What is asked of each operation: the store turns what is owned; the others bear both. -/
def MStp (P : Program) (ρ : Option Nat) (φs : List (Value → RH → Prop)) (Os : Bool → List Frag → Prop) (ms k : Nat) (o : Oper) (l : Nat → Value) (R : RH) : Prop :=
  (k = ms → ∀ O', Os false O' → Eff P ρ o l R O' fun v R' O'' => Os true O'') ∧ (k ≠ ms → ∀ b O', Os b O' → Eff P ρ o l R O' fun v R' O'' => O'' = O' ∧ phi φs k v R')
def MObls (P : Program) (ρ : Option Nat) (gs : List Oper) (φs : List (Value → RH → Prop)) (l0 : Nat → Value) (R0 : RH) (Os : Bool → List Frag → Prop) (ms : Nat) : Nat → List Oper → Prop
  | _, [] => True
  | k, o :: r => (∀ l R, RH.le R0 R → Agree gs l0 l → DepF gs φs l R o.after.toList → MStp P ρ φs Os ms k o l R) ∧ MObls P ρ gs φs l0 R0 Os ms (k + 1) r
theorem mobls_get : ∀ (os : List Oper) (k : Nat), MObls P ρ gs φs l0 R0 Os ms k os → ∀ (i : Nat) (o : Oper), os[i]? = some o → ∀ l R, RH.le R0 R → Agree gs l0 l → DepF gs φs l R o.after.toList → MStp P ρ φs Os ms (k + i) o l R
  | [], k, _, i, o, h => by simp at h
  | o' :: os, k, hO, i, o, h => by
    cases i with
    | zero => simp at h; subst h; exact hO.1
    | succ i =>
      have := mobls_get os (k + 1) hO.2 i o (by simpa using h)
      rwa [show k + 1 + i = k + (i + 1) from by omega] at this
/-- What follows: a store has no value. -/
def MEndQ (φs : List (Value → RH → Prop)) (ms : Nat) (R : RH) (K : List (Nat × Value) → Prop) : Nat → List Oper → Prop
  | _, [] => K []
  | k, o :: r => match o.dst with
    | none => MEndQ φs ms R K (k + 1) r
    | some d => ∀ v, phi φs k v R → MEndQ φs ms R (fun acc => K ((d, v) :: acc)) (k + 1) r
theorem mendQ_use {R : RH} {l : Nat → Value} : ∀ (os : List Oper) (k : Nat) (K : List (Nat × Value) → Prop), MEndQ φs ms R K k os → (∀ i o d, os[i]? = some o → o.dst = some d → phi φs (k + i) (l d) R) → K (os.filterMap fun o => o.dst.map fun d => (d, l d))
  | [], k, K, h, _ => h
  | o :: os, k, K, h, hφ => by
    have hφ' : ∀ i o' d, os[i]? = some o' → o'.dst = some d → phi φs (k + 1 + i) (l d) R := fun i o' d hi hd' => by
      have := hφ (i + 1) o' d (by simpa using hi) hd'; rwa [show k + (i + 1) = k + 1 + i from by omega] at this
    unfold MEndQ at h
    cases hd : o.dst with
    | none =>
      rw [hd] at h
      have := mendQ_use (l := l) os (k + 1) K h hφ'
      simpa [List.filterMap_cons, hd] using this
    | some d =>
      rw [hd] at h
      have := mendQ_use (l := l) os (k + 1) _ (h (l d) (hφ 0 o d rfl hd)) hφ'
      simpa [List.filterMap_cons, hd] using this
theorem msetl_agree {l : Nat → Value} (h : Agree gs l0 l) : l = setl l0 (gs.filterMap fun o => o.dst.map fun d => (d, l d)) := by
  have key : ∀ (os : List Oper) s, setl l0 (os.filterMap fun o => o.dst.map fun d => (d, l d)) s = if s ∈ os.filterMap (·.dst) then l s else l0 s := by
    intro os
    induction os with
    | nil => intro s; simp [setl]
    | cons o os ih =>
      intro s
      cases hd : o.dst with
      | none => simp only [List.filterMap_cons, hd, Option.map_none]; exact ih s
      | some d =>
        simp only [List.filterMap_cons, hd, Option.map_some, setl]
        unfold upd
        by_cases e : s = d
        · subst e; simp
        · have : Nat.beq s d = false := by
            cases hb : Nat.beq s d
            · rfl
            · exact absurd (Nat.eq_of_beq_eq_true hb) e
          rw [this]
          simp only [cond_false, ih s, List.mem_cons, e, false_or]
  funext s
  rw [key gs s]
  split
  · rfl
  · rename_i hn
    exact h s (by simpa [dsts] using hn)

structure MJ (gs : List Oper) (φs : List (Value → RH → Prop)) (l0 : Nat → Value) (R0 : RH) (Os : Bool → List Frag → Prop) (ms n : Nat) (D : List Nat) (listed : Array Bool) (a : Act) (w : World) : Prop where
  ex : ∃ l R O', Fr n l D a ∧ Holds R (O' ++ D.map dfrag) w ∧ RH.le R0 R ∧ Os (listed.getD ms false) O' ∧ Agree gs l0 l ∧ (∀ i d, listed.getD i false = true → dstOf gs i = some d → phi φs i (l d) R)

theorem mid_step (hok : midOk gs ms n = true) (hmono : monoOk φs) (hobl : MObls P ρ gs φs l0 R0 Os ms 0 gs) {listed : Array Bool} {a : Act} {w : World} {i : Nat} {o : Oper} (hsz : listed.size = gs.length) (hi : gs[i]? = some o)
    (hj : MJ gs φs l0 R0 Os ms n D listed a w) (hun : listed.getD i true = false) (hdep : ∀ e ∈ o.after, Region.binds .any e = true → listed.getD e.on false = true) :
    wpOpIn (wide ρ) 0 P gs.toArray (lift n Q) i (MJ gs φs l0 R0 Os ms n D (listed.setIfInBounds i true)) a w := by
  obtain ⟨s1, s2, s3, s4⟩ := midOk_spec hok
  obtain ⟨l, R, O', hf, hh, hle, hos, hag, hφ⟩ := hj.ex
  obtain ⟨hg, hdst, hms⟩ := s1 i o hi
  have hlt : i < gs.length := (List.getElem?_eq_some_iff.1 hi).1
  have hio : gs.toArray[i]? = some o := by simp [hi]
  have hst := mobls_get gs 0 hobl i o hi l R hle hag (depF_of _ fun e he hb d' hd' => hφ e.on d' (hdep e (by simpa using he) hb) hd')
  rw [Nat.zero_add] at hst
  have hlist : ∀ k, k ≠ i → (listed.setIfInBounds i true).getD k false = listed.getD k false := fun k hk => getD_set_ne false (Ne.symm hk)
  unfold wpOpIn
  rw [hio]
  simp only [wanted_none hg, if_true]
  by_cases hm : i = ms
  · subst hm
    have hdn := hms rfl
    have hnl : listed.getD i false = false := by
      rw [Array.getD_eq_getD_getElem?, Array.getElem?_eq_getElem (by omega)] at hun ⊢
      simpa using hun
    rw [hnl] at hos
    refine wpIn_of_eff (A := D.map dfrag) hf hh (hst.1 rfl O' hos) fun v R' O'' w' hle' hh' hp => ?_
    refine ⟨l, R', O'', by rw [hdn]; exact hf, hh', hle.trans hle', by rw [setIf_getD (by omega)]; exact hp, hag, fun k d' hk hd' => ?_⟩
    have hne : k ≠ i := fun e => by subst e; simp [dstOf, hi, hdn] at hd'
    exact hmono _ _ _ _ hle' (hφ k d' (by rw [hlist k hne] at hk; exact hk) hd')
  · obtain ⟨d, hd, hdn⟩ := hdst hm
    have hdi : dstOf gs i = some d := by simp [dstOf, hi, hd]
    refine wpIn_of_eff (A := D.map dfrag) hf hh (hst.2 hm _ O' hos) ?_
    rintro v R' O'' w' hle' hh' ⟨rfl, hp⟩
    have hput : Fr n (upd l d v) D (a.put o.dst v) := by have := hf.put (d := o.dst) (fun t ht => by rw [hd] at ht; cases ht; exact hdn) v; rw [hd] at this ⊢; exact this
    refine ⟨upd l d v, R', O'', hput, hh', hle.trans hle', by rw [hlist ms (Ne.symm hm)]; exact hos, fun s hs => ?_, fun k d' hk hd' => ?_⟩
    · have hne : s ≠ d := fun e => by subst e; have := dst_mem hdi; simp [this] at hs
      have : upd l d v s = l s := by
        unfold upd
        cases hb : Nat.beq s d
        · rfl
        · exact absurd (Nat.eq_of_beq_eq_true hb) hne
      rw [this]; exact hag s hs
    · by_cases e : k = i
      · subst e; rw [hdi] at hd'; cases hd'
        have : upd l d v d = v := by simp [upd]
        rw [this]; exact hp
      · have hne : d' ≠ d := fun e' => by subst e'; exact e (dstOf_inj s2 hd' hdi)
        have : upd l d v d' = l d' := by
          unfold upd
          cases hb : Nat.beq d' d
          · rfl
          · exact absurd (Nat.eq_of_beq_eq_true hb) hne
        rw [this]
        exact hmono _ _ _ _ hle' (hφ k d' (by rw [hlist k e] at hk; exact hk) hd')

theorem wg_mid {id : Nat} (ms : Nat) (Os : Bool → List Frag → Prop) (φs : List (Value → RH → Prop)) (hm : P.follows .mixedOrders = true) (hok : midOk gs ms n = true) (hmono : monoOk φs) (h0 : Os false O) (hobl : MObls P ρ gs φs l0 R0 Os ms 0 gs)
    (hend : ∀ R O', RH.le R0 R → Os true O' → MEndQ φs ms R (fun acc => Q .normal (setl l0 acc) D R O') 0 gs) : wg P ρ n (.region id gs.toArray true) Q l0 D R0 O := by
  intro a w hf hh
  refine wpIn_region_any hm ?_
  obtain ⟨s1, s2, s3, s4⟩ := midOk_spec hok
  have hno : ∀ (k : Nat), (Array.replicate gs.toArray.size false).getD k false = false := fun k => by
    rw [Array.getD_eq_getD_getElem?, Array.getElem?_replicate]; split <;> rfl
  have hready : ∀ (listed : Array Bool), listed.size = gs.length → Region.ready .any gs.toArray listed = [] → ∀ k, k < gs.length → listed.getD k false = true := by
    intro listed hsz hr k
    induction k using Nat.strongRecOn with
    | _ k ih =>
      intro hk
      have ho : gs.toArray[k]? = some (gs[k]'hk) := by simp [hk]
      cases hb : listed.getD k false with
      | true => rfl
      | false =>
        have : k ∈ Region.ready .any gs.toArray listed := mem_ready.2 ⟨by
          rw [Array.getD_eq_getD_getElem?, Array.getElem?_eq_getElem (by omega)] at hb ⊢
          exact hb, _, ho, fun e he hbind => by
            have hlt := s3 k _ (by simp [hk]) e he hbind
            exact ih e.on hlt (by omega)⟩
        rw [hr] at this
        cases this
  have hdone : ∀ (listed : Array Bool) (a : Act) (w : World), listed.size = gs.length → MJ gs φs l0 R0 Os ms n D listed a w → Region.ready .any gs.toArray listed = [] → lift n Q .normal a w := by
    intro listed a w hsz hj hr
    have hall := hready listed hsz hr
    obtain ⟨l, R, O', hf, hh, hle, hos, hag, hφ⟩ := hj.ex
    rw [hall ms s4] at hos
    have h1 := mendQ_use (ms := ms) (R := R) (l := l) gs 0 _ (hend R O' hle hos) (fun i o d hi hd => by
      rw [Nat.zero_add]
      exact hφ i d (hall i (List.getElem?_eq_some_iff.1 hi).1) (by simp [dstOf, hi, hd]))
    rw [← msetl_agree hag] at h1
    exact ⟨l, D, R, O', hf, hh, h1⟩
  have main : ∀ (fuel : Nat) (listed : Array Bool) (a : Act) (w : World), listed.size = gs.length → ((List.range gs.length).filter fun i => !listed.getD i true).length ≤ fuel → MJ gs φs l0 R0 Os ms n D listed a w →
      wpAnyIn (wide ρ) 0 P .any gs.toArray (lift n Q) fuel listed a w := by
    intro fuel
    induction fuel with
    | zero =>
      intro listed a w hsz hfu hp
      have hr : Region.ready .any gs.toArray listed = [] := by
        cases hr : Region.ready .any gs.toArray listed with
        | nil => rfl
        | cons x xs =>
          have hx : x ∈ Region.ready .any gs.toArray listed := by rw [hr]; exact List.mem_cons_self ..
          obtain ⟨hun, o, ho, _⟩ := mem_ready.1 hx
          have : x ∈ ((List.range gs.length).filter fun i => !listed.getD i true) := by
            rw [List.mem_filter, List.mem_range]
            exact ⟨by have := (Array.getElem?_eq_some_iff.1 ho).1; simpa using this, by rw [hun]; rfl⟩
          have := List.length_pos_of_mem this
          omega
      exact ⟨hr, hdone listed a w hsz hp hr⟩
    | succ fuel ih =>
      intro listed a w hsz hfu hp
      refine ⟨hdone listed a w hsz hp, fun i hi => ?_⟩
      obtain ⟨hun, o, ho, hdep⟩ := mem_ready.1 hi
      have hil : i < gs.length := by have := (Array.getElem?_eq_some_iff.1 ho).1; simpa using this
      refine wpOpIn_mono (fun a' w' h' => ih _ a' w' (by simpa using hsz) ?_ h') (mid_step hok hmono hobl hsz (by simpa using ho) hp hun hdep)
      have hsub : ((List.range gs.length).filter fun k => !(listed.setIfInBounds i true).getD k true) = (((List.range gs.length).filter fun k => !listed.getD k true).filter fun k => k != i) := by
        rw [List.filter_filter]
        refine List.filter_congr fun k _ => ?_
        by_cases e : k = i
        · subst e; rw [setIf_getD (by omega)]; simp
        · rw [getD_set_ne true (Ne.symm e)]; simp [e]
      rw [hsub]
      have hmem : i ∈ ((List.range gs.length).filter fun k => !listed.getD k true) := by
        rw [List.mem_filter, List.mem_range]
        exact ⟨hil, by rw [hun]; rfl⟩
      have : (((List.range gs.length).filter fun k => !listed.getD k true).filter fun k => k != i).length < ((List.range gs.length).filter fun k => !listed.getD k true).length := List.length_filter_lt_length_iff_exists.2 ⟨i, hmem, show ¬ ((i != i) = true) by simp⟩
      omega
  refine main _ _ a _ (by simp) (by
    refine Nat.le_trans (List.length_filter_le _ _) ?_
    simp) ⟨l0, R0, O, hf, holds_drew hh, RH.le.refl _, by rw [hno]; exact h0, fun _ _ => rfl, fun i d hi => by rw [hno] at hi; cases hi⟩
end mid
theorem orep_any_int {k : IntKind} {R R' : RH} {f : Frag} {v : Value} {X : List Int} (h : ORep (tInt k) R f v X) : ORep (tInt k) R' f v X := h
theorem orep_any_bool {R R' : RH} {f : Frag} {v : Value} {X : List Bool} (h : ORep tBool R f v X) : ORep tBool R' f v X := h
/-- A function value that tells of each element of a list whether it is so. -/
def Pred1 (P : Program) (R : RH) (fv : Value) {α : Type} (val : α → Value) (p : α → Bool) (X : List α) : Prop :=
  ∀ R', RH.le R R' → ∀ x ∈ X, CallV P fv [val x].toArray R' [] (fun v _ O => O = [] ∧ v = .bool (p x))
theorem Pred1.mono {P : Program} {R R' : RH} {fv : Value} {α : Type} {val : α → Value} {p : α → Bool} {X : List α} (h : Pred1 P R fv val p X) (hle : RH.le R R') : Pred1 P R' fv val p X := fun R2 hle2 => h R2 (hle.trans hle2)
theorem pred1_of {P : Program} {R : RH} {f : FuncId} {α : Type} {val : α → Value} {p : α → Bool} {X : List α} {cs : List Value} (he : Enters P f) (h : ∀ R', RH.le R R' → ∀ x ∈ X, CallP P f (val x :: cs).toArray R' (fun v _ => v = .bool (p x))) :
    Pred1 P R (.func (.func f) #[] cs.toArray) val p X := fun R' hle x hx => callV_func he (by simp) ((h R' hle x hx).toG)
/-- A function value that compares two elements. -/
def Pred2 (P : Program) (R : RH) (fv : Value) {α : Type} (T : Ty α) (p : α → α → Bool) (S : α → α → Prop) : Prop :=
  ∀ R', RH.le R R' → ∀ x y u v, S x y → VRep T R' u x → VRep T R' v y → CallV P fv [u, v].toArray R' [] (fun v _ O => O = [] ∧ v = .bool (p x y))
theorem Pred2.mono {P : Program} {R R' : RH} {fv : Value} {α : Type} {T : Ty α} {p : α → α → Bool} {S : α → α → Prop} (h : Pred2 P R fv T p S) (hle : RH.le R R') : Pred2 P R' fv T p S := fun R2 hle2 => h R2 (hle.trans hle2)
theorem pred2_of {P : Program} {R : RH} {f : FuncId} {α : Type} {T : Ty α} {p : α → α → Bool} {S : α → α → Prop} (he : Enters P f) (h : ∀ R', RH.le R R' → ∀ x y u v, S x y → VRep T R' u x → VRep T R' v y → CallP P f [u, v].toArray R' (fun v _ => v = .bool (p x y))) :
    Pred2 P R (.func (.func f) #[] #[]) T p S := fun R' hle x y u v hS hu hv => callV_func he (by simp) ((h R' hle x y u v hS hu hv).toG)
theorem getD_mem {α : Type} [Inhabited α] {X : List α} {i : Nat} (h : i < X.length) : X.getD i default ∈ X := List.mem_of_getElem? (getD_some h)
theorem wo_callV0 {P : Program} {ρ : Option Nat} {n : Nat} {Q : Po} {l : Nat → Value} {D : List Nat} {R : RH} {O : List Frag} {ops : Array Oper} {rest : List Oper} {ty : TypeId} {pos : String} {after : Array Go.Edge} {d : Nat}
    {c : Operand} {args : List Operand} {at' : Array TypeId} {fv r : Value} {vs : List Value} (hd : Nat.blt d n = true) (hc : ev l c = fv) (ha : args.map (ev l) = vs) (h : CallV P fv vs.toArray R [] (fun v _ O => O = [] ∧ v = r))
    (hk : ∀ R', RH.le R R' → wo P ρ n ops Q rest (upd l d r) D R' O) : wo P ρ n ops Q (⟨some d, .call ⟨.value c, args.toArray, at'⟩, ty, pos, after, none⟩ :: rest) l D R O :=
  wo_callV (Oc := []) (Or := O) hd hc ha (List.Perm.refl O) h fun v R' Oc' hle ⟨hO, hv⟩ => by subst hO; subst hv; exact hk R' hle
theorem ph_callV0 {P : Program} {ρ : Option Nat} {l : Nat → Value} {R : RH} {O : List Frag} {dst : Option Tmp} {ty : TypeId} {pos : String} {after : Array Go.Edge} {g : Option (Nat × Bool)}
    {c : Operand} {args : List Operand} {at' : Array TypeId} {fv r : Value} {vs : List Value} (hc : ev l c = fv) (ha : args.map (ev l) = vs) (h : CallV P fv vs.toArray R [] (fun v _ O => O = [] ∧ v = r)) :
    Eff P ρ ⟨dst, .call ⟨.value c, args.toArray, at'⟩, ty, pos, after, g⟩ l R O (fun v' R' O' => O' = O ∧ phX r v' R') :=
  (eff_callV (Oc := []) (Or := O) hc (args_arr ha) (List.Perm.refl O) h).mono fun v R' O' _ ⟨Oc', hO, hO', hv⟩ => by subst hO'; exact ⟨hO, hv⟩
section eq2
variable {P : Program}
theorem part_of1 {t : TypeId} {k : IntKind} (hu : P.underlying t = some (.int k)) {cs : Array Value} {off : Nat} {v : Value} (h : cs[off]? = some v) (w : World) : (part t cs off).run P w = .ok v w := by
  have : (isAgg t).run P w = .ok false w := by simp [isAgg, underlying, hu]
  simp [part, this, h]
theorem eqOk2_struct {t : TypeId} (hm : P.eqGuardType P.depth t = false) (ht : P.underlying t = some (.struct (P.fieldsOf t))) (hp : P.stoodInHeld t = false) {f0 f1 : Field} (hfs : (P.fieldsOf t).toList = [f0, f1])
    (n0 : (f0.name == "_") = false) (n1 : (f1.name == "_") = false) (t0 : P.underlying f0.type = some (.int .i64)) (t1 : P.underlying f1.type = some (.int .i64)) (o0 : f0.offset = 0) (o1 : f1.offset = 1) : EqOk2 P t := by
  intro a b c d x y w
  have n0' : f0.name ≠ "_" := by simpa using n0
  have n1' : f1.name ≠ "_" := by simpa using n1
  rw [Sem.run_bind, run_eqGuard_agg w .eql t x y _ _ hm, Result.andThen_ok, run_eql_struct, run_equalIn_agg w 9999 t _ _ ht hp, hfs]
  simp only [Op.eqFields, n0', n1', ne_eq, not_false_eq_true, if_true, Sem.run_bind, o0, o1]
  rw [part_of1 t0 (v := .int .i64 a) rfl, Result.andThen_ok, part_of1 t0 (v := .int .i64 c) rfl, Result.andThen_ok, run_equalIn_int w 9998 _ _ _ _ _ t0, Result.andThen_ok]
  cases hac : (a == c)
  · simp
  · rw [if_neg (by decide : ¬ (!true) = true)]
    simp only [Sem.run_bind]
    rw [part_of1 t1 (v := .int .i64 b) rfl, Result.andThen_ok, part_of1 t1 (v := .int .i64 d) rfl, Result.andThen_ok, run_equalIn_int w 9998 _ _ _ _ _ t1, Result.andThen_ok]
    cases hbd : (b == d) <;> simp
theorem run_equalIn_arr2 {t e : TypeId} (d : Nat) (a b c x : Int) (w : World) (ht : P.underlying t = some (.array 2 e)) (te : P.underlying e = some (.int .i64)) (se : ∀ w, (sizeOf e).run P w = .ok 1 w) :
    (Op.equalIn (d + 2) t (.agg #[.int .i64 a, .int .i64 b]) (.agg #[.int .i64 c, .int .i64 x])).run P w = .ok (a == c && b == x) w := by
  have h0 : ∀ (x y : Int) (w : World), (part e #[.int .i64 x, .int .i64 y] 0).run P w = .ok (.int .i64 x) w := fun x y w => part_of1 te rfl w
  have h1 : ∀ (x y : Int) (w : World), (part e #[.int .i64 x, .int .i64 y] 1).run P w = .ok (.int .i64 y) w := fun x y w => part_of1 te rfl w
  rw [Op.equalIn]
  simp only [Sem.run_bind, run_underlying ht, Result.andThen_ok, se]
  simp only [Std.Legacy.Range.forIn_eq_forIn_range', Std.Legacy.Range.size, show (2 - 0 + 1 - 1) / 1 = 2 from rfl, List.range'_succ, List.range'_zero, List.forIn_cons, List.forIn_nil, Sem.run_bind, Nat.zero_mul, Nat.zero_add, Nat.one_mul]
  rw [h0, Result.andThen_ok, h0, Result.andThen_ok, run_equalIn_int w d _ _ _ _ _ te, Result.andThen_ok]
  cases hac : (a == c)
  · simp
  · simp only [Bool.not_true, Bool.false_eq_true, if_false, Sem.run_bind, Sem.run_pure, Result.andThen_ok]
    rw [h1, Result.andThen_ok, h1, Result.andThen_ok, run_equalIn_int w d _ _ _ _ _ te, Result.andThen_ok]
    cases hbd : (b == x) <;> simp
theorem eqOk2_array {t e : TypeId} (hm : P.eqGuardType P.depth t = false) (ht : P.underlying t = some (.array 2 e)) (te : P.underlying e = some (.int .i64)) (se : ∀ w, (sizeOf e).run P w = .ok 1 w) : EqOk2 P t := by
  intro a b c d x y w
  rw [Sem.run_bind, run_eqGuard_agg w .eql t x y _ _ hm, Result.andThen_ok, run_eql_struct, run_equalIn_arr2 9998 a b c d w ht te se]
  rfl
end eq2
theorem gandL {a b : Bool} (h : (a && b) = true) : a = true := by cases a <;> simp_all
theorem gandR {a b w : Bool} (h : (a && (b == w)) = true) : b = w := by cases a <;> simp_all
theorem gandT {a b w : Bool} (h : a = true) (hb : b = w) : (a && (b == w)) = true := by simp [h, hb]
theorem mid_storeO {P : Program} {ρ : Option Nat} {l : Nat → Value} {R : RH} {O : List Frag} {dst : Option Tmp} {ty : TypeId} {pos : String} {after : Array Go.Edge} {g : Option (Nat × Bool)} {α : Type} {T : Ty α} {t : TypeId} {x y : Operand} {f : Frag} {v u w : Value} {X : List α} {i j : Nat} {z : α} {K : List Frag → Prop}
    (ht : TyOk P t T) (hv : ORep T R f v X) (hO : O[j]? = some f) (hx : ev l x = u) (hp : OPtr T v X u i) (hi : i < X.length) (hy : ev l y = w) (hz : VRep T R w z) (hk : ∀ f', ORep T R f' v (X.set i z) → K (O.set j f')) :
    Eff P ρ ⟨dst, .store t x y, ty, pos, after, g⟩ l R O (fun _ _ O' => K O') := by
  obtain ⟨b, off, h1, rfl⟩ := hp
  refine (eff_storeO ht hv h1 hO hx hi hy hz).mono ?_
  rintro v' R' O' _ ⟨_, rfl, f', rfl, h⟩
  exact hk f' h
end GV
end Go.Proofs.Ytohjnbajgbdhhaa
