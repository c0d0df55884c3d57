import Derived.Test.YtkcccdcloealfaaSpec09b
import Derived.Test.YtkcccdcloealfaaSpec04b
set_option linter.unusedVariables false
set_option linter.unusedSimpArgs false
namespace Go.Proofs.Ytkcccdcloealfaa
namespace GV
set_option maxRecDepth 100000
theorem zgc {m : Mach} (hm : MOk m) {t : Nat} : Reach m 0 t ↔ occ (rch m 0) t = true := by
  have hP := z3u hm
  constructor
  · intro h
    induction h with
    | refl => exact z0i.2 ⟨0, hP.pos, by rw [hP.root]⟩
    | step h1 h2 h3 h4 ih =>
      rename_i t i
      obtain ⟨q, hq, rfl⟩ := z0i.1 ih
      have hr := hm.row _ h2
      have hne : ed m ((rch m 0).getD q default).st i ≠ -1 := by show ((m.rows.getD ((rch m 0).getD q default).st default).getD i default).to ≠ -1; omega
      obtain ⟨j, hj, hst, _⟩ := hP.cls q i hq (by omega) hne
      refine z0i.2 ⟨j, hj, ?_⟩
      have : ed m ((rch m 0).getD q default).st i = ((m.rows.getD ((rch m 0).getD q default).st default).getD i default).to := rfl
      omega
  · intro h
    obtain ⟨j, hj, rfl⟩ := z0i.1 h
    clear h
    have key : ∀ n j, j ≤ n → j < (rch m 0).length → Reach m 0 ((rch m 0).getD j default).st := by
      intro n
      induction n with
      | zero =>
        intro j hj hjl
        obtain rfl : j = 0 := by omega
        rw [hP.root]; exact .refl
      | succ n ih =>
        intro j hj hjl
        by_cases h0 : j = 0
        · exact ih j (by omega) hjl
        · obtain ⟨q, i, hq, hi, _, _, _, hed⟩ := hP.par j (by omega) hjl
          have hr := ih q (by omega) (by omega)
          have hrl := hm.row _ (hP.rng q (by omega))
          have he : ((m.rows.getD ((rch m 0).getD q default).st default).getD i default).to = (((rch m 0).getD j default).st : Int) := hed
          have := Reach.step (i := i) hr (hP.rng q (by omega)) (by omega) (by rw [he]; omega)
          rw [he, Int.toNat_natCast] at this
          exact this
    exact key j j (Nat.le_refl _) hj
/-! ### First ones -/
def fsS (m : Mach) : List Nat := (ak (z0s (cls m) (rch m 0)) (rch m 0).length).map fun j => ((rch m 0).getD j default).st
section
variable {N : Nat} {m : Mach}
theorem zhv : (fsS m).length = cntF (z0s (cls m) (rch m 0)) (rch m 0).length := by unfold fsS; rw [List.length_map, z00]
theorem zgr (hm : MOk m) : z4p m = (fsS m).map (cls m) := by
  unfold z4p fsS fq
  rw [zx2 hm, List.map_map]
  unfold z6a
  rw [List.map_map]
  rfl
theorem zbj (hm : MOk m) : (z4p m).length = (fsS m).length := by rw [zgr hm, List.length_map]
theorem zjc (hm : MOk m) {c : Nat} (hc : c < (fsS m).length) : (z4p m).getD c 0 = cls m ((fsS m).getD c 0) := by
  rw [zgr hm]
  simp [List.getD_eq_getElem?_getD, hc]
theorem zmr (hm : MOk m) {c : Nat} (hc : c < (fsS m).length) : (fsS m).getD c 0 < m.rows.length ∧ occ (rch m 0) ((fsS m).getD c 0) = true := by
  have hP := z3u hm
  have hc' := hc
  rw [zhv] at hc'
  obtain ⟨h1, _, _⟩ := z0w hc'
  have hg : (fsS m).getD c 0 = ((rch m 0).getD ((ak (z0s (cls m) (rch m 0)) (rch m 0).length).getD c 0) default).st := by
    unfold fsS
    have h3 : c < (ak (z0s (cls m) (rch m 0)) (rch m 0).length).length := by rw [z00]; exact hc'
    simp [List.getD_eq_getElem?_getD, h3]
  rw [hg]
  exact ⟨hP.rng _ h1, z0i.2 ⟨_, h1, rfl⟩⟩
theorem zun (hm : MOk m) : (fsS m).length ≤ m.rows.length := by
  rw [zhv]; exact Nat.le_trans (z6u _ _) (z3u hm).le
theorem zh1 (hm : MOk m) : (z4p m).Nodup := zh6 (zwo hm)
end
end GV
end Go.Proofs.Ytkcccdcloealfaa
