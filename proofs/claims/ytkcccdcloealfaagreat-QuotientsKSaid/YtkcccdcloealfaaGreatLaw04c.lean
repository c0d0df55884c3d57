import Derived.Test.YtkcccdcloealfaaGreatSpec04b
set_option linter.unusedVariables false
set_option linter.unusedSimpArgs false
namespace Go.Proofs.YtkcccdcloealfaaGreat
namespace GV
set_option maxRecDepth 100000
theorem zuq {α : Type} {X Y : List α} {k : Nat} {d : α} (h : X.length ≤ k) : (X ++ Y).getD k d = Y.getD (k - X.length) d := by
  simp only [List.getD_eq_getElem?_getD]; rw [List.getElem?_append_right h]
theorem z9m {n : Int} {u v : List Int} (hu : WOk n u) (hv : WOk n v) : WOk n (u ++ v) := fun k hk => by
  rw [List.length_append] at hk
  by_cases h : k < u.length
  · rw [z3p h]; exact hu k h
  · rw [zuq (by omega)]; exact hv _ (by omega)
/-! ### The shape of a machine -/
theorem zxa {m : Mach} (hm : MOk m) {k i : Nat} (hk : k < m.rows.length) (hi : i < m.inputs.toNat) : (z8v m (k * m.inputs.toNat + i)).to = -1 ∧ (z8v m (k * m.inputs.toNat + i)).out = -1 ∧ ¬ 0 ≤ ((m.rows.getD k default).getD i default).to ∨
    ¬ ((z8v m (k * m.inputs.toNat + i)).to = -1 ∧ (z8v m (k * m.inputs.toNat + i)).out = -1) ∧ 0 ≤ ((m.rows.getD k default).getD i default).to := by
  rw [zfl hi]
  have hrow := hm.row k hk
  rcases hm.edge k i hk (by omega) with h | h
  · left; omega
  · right; omega
theorem zm5 {m : Mach} (hm : MOk m) : ∀ k, k ≤ m.rows.length → zbn m k + (z7m m (k * m.inputs.toNat)).length = k * m.inputs.toNat
  | 0, _ => by simp [zbn, z7m]
  | k + 1, hk => by
    have ih := zm5 hm k (by omega)
    have hrow := hm.row k (by omega)
    have inner : ∀ i, i ≤ m.inputs.toNat → zgm (m.rows.getD k default) i + (z7m m (k * m.inputs.toNat + i)).length = (z7m m (k * m.inputs.toNat)).length + i := by
      intro i
      induction i with
      | zero => intro _; simp [zgs]
      | succ i ih' =>
        intro hi
        have h0 := ih' (by omega)
        have hil : i < (m.rows.getD k default).length := by omega
        rw [zhh _ _ hil, ← Nat.add_assoc, zhr, List.length_append]
        rcases zxa hm (by omega : k < m.rows.length) (by omega : i < m.inputs.toNat) with ⟨h1, h2, h3⟩ | ⟨h1, h2⟩
        · rw [if_neg h3, if_pos ⟨h1, h2⟩, List.length_singleton]; omega
        · rw [if_pos h2, if_neg h1, List.length_nil]; omega
    have := inner m.inputs.toNat (Nat.le_refl _)
    rw [zbk m k (by omega), Nat.succ_mul, show (m.rows.getD k default).length = m.inputs.toNat by omega]
    omega
end GV
end Go.Proofs.YtkcccdcloealfaaGreat
