import Derived.Test.YtplgbkaollfmkaaSpec04b
set_option linter.unusedVariables false
set_option linter.unusedSimpArgs false
namespace Go.Proofs.Ytplgbkaollfmkaa
namespace GV
set_option maxRecDepth 100000
/-! ### The shape of a machine -/
theorem zqw {m : Mach} (hm : MOk m) {k i : Nat} (hk : k < m.rows.length) (hi : i < m.inputs.toNat) : (z6a m (k * m.inputs.toNat + i)).to = -1 ∧ (z6a m (k * m.inputs.toNat + i)).out = -1 ∧ ¬ 0 ≤ ((m.rows.getD k default).getD i default).to ∨
    ¬ ((z6a m (k * m.inputs.toNat + i)).to = -1 ∧ (z6a m (k * m.inputs.toNat + i)).out = -1) ∧ 0 ≤ ((m.rows.getD k default).getD i default).to := by
  rw [zcw hi]
  have hrow := hm.row k hk
  rcases hm.edge k i hk (by omega) with h | h
  · left; omega
  · right; omega
theorem zhl {m : Mach} (hm : MOk m) : ∀ k, k ≤ m.rows.length → zb7 m k + (z4x m (k * m.inputs.toNat)).length = k * m.inputs.toNat
  | 0, _ => by simp [zb7, z4x]
  | k + 1, hk => by
    have ih := zhl hm k (by omega)
    have hrow := hm.row k (by omega)
    have inner : ∀ i, i ≤ m.inputs.toNat → zde (m.rows.getD k default) i + (z4x m (k * m.inputs.toNat + i)).length = (z4x m (k * m.inputs.toNat)).length + i := by
      intro i
      induction i with
      | zero => intro _; simp [zh9]
      | succ i ih' =>
        intro hi
        have h0 := ih' (by omega)
        have hil : i < (m.rows.getD k default).length := by omega
        rw [zi0 _ _ hil, ← Nat.add_assoc, zed, List.length_append]
        rcases zqw hm (by omega : k < m.rows.length) (by omega : i < m.inputs.toNat) with ⟨h1, h2, h3⟩ | ⟨h1, h2⟩
        · rw [if_neg h3, if_pos ⟨h1, h2⟩, List.length_singleton]; omega
        · rw [if_pos h2, if_neg h1, List.length_nil]; omega
    have := inner m.inputs.toNat (Nat.le_refl _)
    rw [zds m k (by omega), Nat.succ_mul, show (m.rows.getD k default).length = m.inputs.toNat by omega]
    omega
end GV
end Go.Proofs.Ytplgbkaollfmkaa
