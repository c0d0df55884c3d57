/- Owned slices whose elements are owned slices. -/
import Derived.Test.YtncblcdhmcmkmaaGvSeq
namespace Go.Proofs.Ytncblcdhmcmkmaa
namespace GV
set_option linter.unusedVariables false

def Has (F f : Frag) : Prop := ∀ k o, f k = some o → F k = some o
def Apart (f g : Frag) : Prop := ∀ k, f k = none ∨ g k = none
def minus (F f : Frag) : Frag := fun k => match f k with | some _ => none | none => F k
def joinF (f g : Frag) : Frag := fun k => match f k with | some o => some o | none => g k
theorem Apart.symm {f g : Frag} (h : Apart f g) : Apart g f := fun k => (h k).symm
theorem apart_emp {f : Frag} : Apart emp f := fun k => .inl rfl
theorem has_emp {F : Frag} : Has F emp := fun k o h => by cases h
theorem has_self {F : Frag} : Has F F := fun _ _ h => h
theorem has_minus {F f g : Frag} (h : Has F g) (ha : Apart f g) : Has (minus F f) g := fun k o hk => by
  unfold minus
  cases e : f k with
  | none => exact h k o hk
  | some o' => rcases ha k with h1 | h1
               · rw [e] at h1; cases h1
               · rw [h1] at hk; cases hk
theorem apart_minus {F f : Frag} : Apart f (minus F f) := fun k => by
  unfold minus
  cases e : f k with
  | none => exact .inl rfl
  | some o => exact .inr rfl
theorem minus_some {F f : Frag} {k : Nat} {o : Obj} (h : minus F f k = some o) : F k = some o := by
  unfold minus at h
  cases e : f k with
  | none => rw [e] at h; exact h
  | some o' => rw [e] at h; cases h
theorem holds_split {R : RH} {F f : Frag} {O : List Frag} {w : World} (h : Holds R (F :: O) w) (hf : Has F f) : Holds R (f :: minus F f :: O) w := by
  obtain ⟨s1, s2⟩ := List.pairwise_cons.1 h.sep
  refine ⟨h.ro, fun g hg k o hk => ?_, List.pairwise_cons.2 ⟨fun g hg k => ?_, List.pairwise_cons.2 ⟨fun g hg k => ?_, s2⟩⟩, h.os, h.out⟩
  · rcases List.mem_cons.1 hg with rfl | hg
    · exact h.own F (List.mem_cons_self ..) k o (hf k o hk)
    rcases List.mem_cons.1 hg with rfl | hg
    · exact h.own F (List.mem_cons_self ..) k o (minus_some hk)
    · exact h.own g (List.mem_cons_of_mem _ hg) k o hk
  · rcases List.mem_cons.1 hg with rfl | hg
    · exact apart_minus k
    · cases e : f k with
      | none => exact .inl rfl
      | some o => rcases s1 g hg k with h1 | h1
                  · rw [hf k o e] at h1; cases h1
                  · exact .inr h1
  · cases e : minus F f k with
    | none => exact .inl rfl
    | some o => rcases s1 g hg k with h1 | h1
                · rw [minus_some e] at h1; cases h1
                · exact .inr h1
theorem holds_join {R : RH} {f g : Frag} {O : List Frag} {w : World} (h : Holds R (f :: g :: O) w) : Holds R (joinF f g :: O) w := by
  obtain ⟨s1, s2⟩ := List.pairwise_cons.1 h.sep
  obtain ⟨s3, s4⟩ := List.pairwise_cons.1 s2
  have hj : ∀ k o, joinF f g k = some o → f k = some o ∨ g k = some o := fun k o hk => by
    unfold joinF at hk
    cases e : f k with
    | none => rw [e] at hk; exact .inr hk
    | some o' => rw [e] at hk; exact .inl hk
  refine ⟨h.ro, fun x hx k o hk => ?_, List.pairwise_cons.2 ⟨fun x hx k => ?_, s4⟩, h.os, h.out⟩
  · rcases List.mem_cons.1 hx with rfl | hx
    · rcases hj k o hk with h1 | h1
      · exact h.own f (List.mem_cons_self ..) k o h1
      · exact h.own g (List.mem_cons_of_mem _ (List.mem_cons_self ..)) k o h1
    · exact h.own x (List.mem_cons_of_mem _ (List.mem_cons_of_mem _ hx)) k o hk
  · cases e : joinF f g k with
    | none => exact .inl rfl
    | some o =>
      rcases hj k o e with h1 | h1
      · rcases s1 x (List.mem_cons_of_mem _ hx) k with h2 | h2
        · rw [h1] at h2; cases h2
        · exact .inr h2
      · rcases s3 x hx k with h2 | h2
        · rw [h1] at h2; cases h2
        · exact .inr h2
theorem has_join1 {f g : Frag} : Has (joinF f g) f := fun k o h => by unfold joinF; rw [h]
theorem has_join2 {f g : Frag} (h : Apart f g) : Has (joinF f g) g := fun k o hk => by
  unfold joinF
  rcases h k with h1 | h1
  · rw [h1]; exact hk
  · rw [h1] at hk; cases hk
theorem Has.trans {a b c : Frag} (h : Has a b) (k : Has b c) : Has a c := fun i o hi => h i o (k i o hi)
theorem Has.apart {f g g' : Frag} (h : Has g g') (ha : Apart f g) : Apart f g' := fun k => by
  cases e : g' k with
  | none => exact .inr rfl
  | some o => rcases ha k with h1 | h1
              · exact .inl h1
              · rw [h k o e] at h1; cases h1

/-- A cell that is one value, whatever it says. -/
def tHdr : Ty Value where
  size := 1
  agg := false
  rep R cs v := cs = [v] ∧ v.oneCell' = true
  len := by rintro R cs x ⟨rfl, _⟩; rfl
  mono := by rintro R R' cs x _ h; exact h
  one _ := rfl
  cell := by
    rintro R cs x ⟨rfl, h⟩ v hv
    rw [List.mem_singleton.1 hv]; exact h

/-- The rows but one (or but none), in a fragment. -/
def Rows {α : Type} (T : Ty α) (R : RH) (G : Frag) (Vs : List Value) (X : List (List α)) (Fs : List Frag) (no : Nat → Prop) : Prop :=
  Fs.length = X.length ∧ (∀ j, j < X.length → ¬ no j → ORep T R (Fs.getD j emp) (Vs.getD j default) (X.getD j default) ∧ Has G (Fs.getD j emp)) ∧
    ∀ i j, i < X.length → j < X.length → ¬ no i → ¬ no j → i ≠ j → Apart (Fs.getD i emp) (Fs.getD j emp)
def O2 {α : Type} (T : Ty α) (R : RH) (F : Frag) (v : Value) (X : List (List α)) : Prop :=
  ∃ Vs f0 Fs, Vs.length = X.length ∧ ORep tHdr R f0 v Vs ∧ Has F f0 ∧ Rows T R F Vs X Fs (fun _ => False) ∧ ∀ j, j < X.length → Apart f0 (Fs.getD j emp)
theorem Rows.mono {α : Type} {T : Ty α} {R R' : RH} {G : Frag} {Vs : List Value} {X : List (List α)} {Fs : List Frag} {no : Nat → Prop} (h : Rows T R G Vs X Fs no) (hle : RH.le R R') : Rows T R' G Vs X Fs no :=
  ⟨h.1, fun j hj hn => ⟨(h.2.1 j hj hn).1.mono hle, (h.2.1 j hj hn).2⟩, h.2.2⟩
theorem O2.mono {α : Type} {T : Ty α} {R R' : RH} {F : Frag} {v : Value} {X : List (List α)} (h : O2 T R F v X) (hle : RH.le R R') : O2 T R' F v X :=
  let ⟨Vs, f0, Fs, a, b, c, d, e⟩ := h; ⟨Vs, f0, Fs, a, b.mono hle, c, d.mono hle, e⟩
theorem getD_set_nat {β : Type} {X : List β} {k j : Nat} {y d : β} (hk : k < X.length) : (X.set k y).getD j d = if j = k then y else X.getD j d := by
  simp only [List.getD_eq_getElem?_getD, List.getElem?_set]
  by_cases h : k = j
  · subst h; simp [hk]
  · rw [if_neg h, if_neg (fun e => h e.symm)]
section laws
variable {P : Program} {ρ : Option Nat} {n : Nat} {Q : Po} {l : Nat → Value} {D : List Nat} {R : RH} {O : List Frag} {ops : Array Oper} {os : List Oper} {c : Code}
end laws
def isNilS : Value → Bool
  | .slice none _ _ => true
  | _ => false
theorem nilS_nil {α : Type} {T : Ty α} {R : RH} {v : Value} {X : List α} (h : VRep (tSlice T) R v X) (hn : isNilS v = true) : X = [] := by
  obtain ⟨p, n, rfl, _, hp, _⟩ := vrep_slice.1 h
  cases p with
  | none => exact hp rfl
  | some a => cases hn
theorem run_eqNil {P : Program} {t e : TypeId} {v : Value} {w : World} (hu : P.underlying t = some (.slice e)) (hv : ∃ p k c, v = .slice p k c) : (Op.equal t v (.slice none 0 0)).run P w = .ok (isNilS v) w := by
  obtain ⟨p, k, c, rfl⟩ := hv
  show (Op.equalIn (9999 + 1) t _ _).run P w = _
  generalize 9999 = d
  cases p <;> simp [Op.equalIn, run_underlying hu, isNilS]
section eqnil
variable {P : Program} {ρ : Option Nat} {l : Nat → Value} {R : RH} {O : List Frag} {dst : Option Tmp} {ty : TypeId} {pos : String} {after : Array Go.Edge} {g : Option (Nat × Bool)}
theorem val_eqNil {t t' e : TypeId} {x y : Operand} {v : Value} (hu : P.underlying t = some (.slice e)) (hx : ev l x = v) (hy : ev l y = .slice none 0 0) (hv : ∃ p k c, v = .slice p k c) : Val P ρ ⟨dst, .binOp .eql t x y t', ty, pos, after, g⟩ l R O (.bool (isNilS v)) := by
  intro A w _; rw [sem_plain (by intro c h; cases h)]
  have h := run_eqNil (w := w) hu hv
  obtain ⟨p, k, c, rfl⟩ := hv
  have hg : (eqGuard .eql t x y (.slice p k c) (.slice none 0 0)).run P w = .ok () w := by simp [eqGuard]
  simp only [execOp, hx, hy, Sem.run_bind, hg, Result.andThen_ok]
  have : (binOp .eql t (.slice p k c) (.slice none 0 0)).run P w = .ok (.bool (isNilS (.slice p k c))) w := by
    simp only [binOp, Sem.run_bind, h, Result.andThen_ok, Sem.run_pure]
  rw [this]; rfl
end eqnil
theorem isS_vrep {α : Type} {T : Ty α} {R : RH} {v : Value} {X : List α} (h : VRep (tSlice T) R v X) : ∃ p k c, v = .slice p k c := by
  obtain ⟨p, n, rfl, _⟩ := vrep_slice.1 h; exact ⟨_, _, _, rfl⟩
end GV
end Go.Proofs.Ytncblcdhmcmkmaa
