/- Chapter 04: what the plain programs compute, first part. -/
import Derived.Test.YtohjnbajgbdhhaaPlain04
import Derived.Test.YtohjnbajgbdhhaaShPl
namespace Go.Proofs.Ytohjnbajgbdhhaa
namespace GV
set_option linter.unusedVariables false
set_option maxRecDepth 100000

theorem fits_eq (N : Nat) (m : Mach) (x : Edge) : machines_fits N m x = some (fitsB m x) := rfl
theorem indexE {N : Nat} {s : List Edge} {f : Edge → Option Bool} {p : Edge → Bool} (hf : ∀ k, k < s.length → f (s.getD k default) = some (p (s.getD k default))) (hN : s.length < N) (hl : s.length ≤ 4611686018427387904) :
    slices_IndexFunc_api_Edge N s f = some (idxF p s) := by
  have h : slices_IndexFunc_api_Edge_L1 N s f N 0 = some (if s.any p = true then Ex.rt (idxF p s) else Ex.go ()) := by
    refine loop_eq (σ := Unit) (fun F k _ => slices_IndexFunc_api_Edge_L1 N s f F (k : Int)) s.length (fun k _ => (s.take k).any p = false) _ (fun F k _ hk hi => ?_) (fun F _ hi => ?_) N 0 () (Nat.zero_le _) (by omega) (by simp)
    · simp only [slices_IndexFunc_api_Edge_L1]
      rw [cd_t (by omega), gd_pos (okI_nat hk), ix_nat, bd_pos (hf k hk)]
      cases hp : p (s.getD k default)
      · right
        refine ⟨(), by rw [take_any p s k hk, hi, hp]; rfl, ?_⟩
        rw [cf rfl, gd_pos (in64_of (by omega))]; rfl
      · left
        rw [ct rfl, if_pos (List.any_eq_true.2 ⟨_, getD_mem hk, hp⟩), idxF_found p s k hk hi hp]
    · simp only [slices_IndexFunc_api_Edge_L1]
      rw [cd_f (by omega), if_neg (by rw [List.take_length] at hi; rw [hi]; decide)]
  unfold slices_IndexFunc_api_Edge
  rw [bd_pos h]
  by_cases ha : s.any p = true
  · rw [if_pos ha]; rfl
  · rw [if_neg ha, idxF_none p s (by simpa using ha)]; rfl
theorem containsE {N : Nat} {s : List Edge} {f : Edge → Option Bool} {p : Edge → Bool} (hf : ∀ k, k < s.length → f (s.getD k default) = some (p (s.getD k default))) (hN : s.length < N) (hl : s.length ≤ 4611686018427387904) :
    slices_ContainsFunc_api_Edge N s f = some (s.any p) := by
  unfold slices_ContainsFunc_api_Edge
  rw [bd_pos (indexE hf hN hl), idxF_ge]
theorem check_eq {N : Nat} {m : Mach} (hs : Small m) (hN : 200 ≤ N) : machines_Check N m = some (checkM m) := by
  unfold machines_Check
  by_cases h : (16 < m.inputs ∨ 16 < m.outputs) ∨ 64 < m.rows.length
  · rw [ct (by simp; omega), checkM_3 h]
  · rw [cf (by simp; omega)]
    by_cases h1 : (m.inputs < 1 ∨ m.outputs < 1) ∨ m.rows.length < 1
    · rw [ct (by simp; omega), checkM_1 h h1]
    · rw [cf (by simp; omega)]
      have hl := hs.r
      have hL : machines_Check_L1 N m N 0 = some (if m.rows.any (rowBad m) = true then Ex.rt 1 else Ex.go ()) := by
        refine loop_eq (σ := Unit) (fun F k _ => machines_Check_L1 N m F (k : Int)) m.rows.length (fun k _ => (m.rows.take k).any (rowBad m) = false) _ (fun F k _ hk hi => ?_) (fun F _ hi => ?_) N 0 () (Nat.zero_le _) (by omega) (by simp)
        · simp only [machines_Check_L1]
          have hc := hs.c k hk
          rw [cd_t (by omega), gd_pos (okI_nat hk), ix_nat, bd_gop (fun _ => containsE (p := fun x => !fitsB m x) (fun j hj => rfl) (by omega) (by omega))]
          have hb : (decide (((m.rows.getD k default).length : Int) ≠ m.inputs) || ((bif (true && (decide (((m.rows.getD k default).length : Int) ≠ m.inputs) == false)) then some ((m.rows.getD k default).any fun x => !fitsB m x) else none).getD default)) = rowBad m (m.rows.getD k default) := by
            unfold rowBad
            cases decide (((m.rows.getD k default).length : Int) ≠ m.inputs) <;> rfl
          rw [hb]
          cases hr : rowBad m (m.rows.getD k default)
          · right
            refine ⟨(), by rw [take_any _ _ k hk, hi, hr]; rfl, ?_⟩
            rw [cf rfl, gd_pos (in64_of (by omega))]; rfl
          · left
            rw [ct rfl, if_pos (List.any_eq_true.2 ⟨_, getD_mem hk, hr⟩)]
        · simp only [machines_Check_L1]
          rw [cd_f (by omega), if_neg (by rw [List.take_length] at hi; rw [hi]; decide)]
      rw [bd_pos hL]
      by_cases ha : m.rows.any (rowBad m) = true
      · rw [if_pos ha]; unfold checkM; rw [if_neg h, if_neg h1, if_pos ha]; rfl
      · rw [if_neg ha, checkM_0 h h1 (by simpa using ha)]; rfl
end GV
end Go.Proofs.Ytohjnbajgbdhhaa
