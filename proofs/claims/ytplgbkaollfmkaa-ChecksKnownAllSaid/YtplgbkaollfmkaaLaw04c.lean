import Derived.Test.YtplgbkaollfmkaaSpec04b
set_option linter.unusedVariables false
set_option linter.unusedSimpArgs false
namespace Go.Proofs.Ytplgbkaollfmkaa
namespace GV
set_option maxRecDepth 100000
/-! ### The shape of a machine -/
theorem znm {m : Mach} (hm : MOk m) {k i : Nat} (hk : k < m.rows.length) (hi : i < m.inputs.toNat) : (z2y m (k * m.inputs.toNat + i)).to = -1 ∧ (z2y m (k * m.inputs.toNat + i)).out = -1 ∧ ¬ 0 ≤ ((m.rows.getD k default).getD i default).to ∨
    ¬ ((z2y m (k * m.inputs.toNat + i)).to = -1 ∧ (z2y m (k * m.inputs.toNat + i)).out = -1) ∧ 0 ≤ ((m.rows.getD k default).getD i default).to := by
  rw [z9y hi]
  have hrow := hm.row k hk
  rcases hm.edge k i hk (by omega) with h | h
  · left; omega
  · right; omega
theorem zeu {m : Mach} (hm : MOk m) : ∀ k, k ≤ m.rows.length → zd3 m k + (z1u m (k * m.inputs.toNat)).length = k * m.inputs.toNat
  | 0, _ => by simp [zd3, z1u]
  | k + 1, hk => by
    have ih := zeu hm k (by omega)
    have hrow := hm.row k (by omega)
    have inner : ∀ i, i ≤ m.inputs.toNat → zba (m.rows.getD k default) i + (z1u m (k * m.inputs.toNat + i)).length = (z1u m (k * m.inputs.toNat)).length + i := by
      intro i
      induction i with
      | zero => intro _; simp [zlu]
      | succ i ih' =>
        intro hi
        have h0 := ih' (by omega)
        have hil : i < (m.rows.getD k default).length := by omega
        rw [zkr _ _ hil, ← Nat.add_assoc, zaz, List.length_append]
        rcases znm hm (by omega : k < m.rows.length) (by omega : i < m.inputs.toNat) with ⟨h1, h2, h3⟩ | ⟨h1, h2⟩
        · rw [if_neg h3, if_pos ⟨h1, h2⟩, List.length_singleton]; omega
        · rw [if_pos h2, if_neg h1, List.length_nil]; omega
    have := inner m.inputs.toNat (Nat.le_refl _)
    rw [zak m k (by omega), Nat.succ_mul, show (m.rows.getD k default).length = m.inputs.toNat by omega]
    omega
end GV
end Go.Proofs.Ytplgbkaollfmkaa
