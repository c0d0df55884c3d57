/- Chapter 06: the reference's part, Trim; the law Trim. -/
import Derived.Test.YtncblcdhmcmkmaaPart06
namespace Go.Proofs.Ytncblcdhmcmkmaa
namespace GV
set_option linter.unusedVariables false
set_option maxRecDepth 100000

theorem rpart_eq {N : Nat} {m : Mach} {L : List Nat} (hm : MOk m) (hc : ClosedP m L) (hN : 200 ≤ N) : gauntletref06_Part N m (castL L) = some (partM m L) := by
  have hlen := hc.len
  have hr2 := hm.r2
  have hi1 := hm.i1
  have hi2 := hm.i2
  have hmem : ∀ k, k < L.length → L.getD k 0 ∈ L := fun k hk => by simp [List.getD_eq_getElem?_getD, hk]
  unfold gauntletref06_Part
  -- where a state stands
  have hL3 : ∀ k i, k < L.length → i < m.inputs.toNat → gauntletref06_Part_L3 N m (castL L) (k : Int) (i : Int) N (-1) 0 = some (pos L (ed m (L.getD k 0) i)) := fun k i hk hi => by
    have hx := hc.rng _ (hmem k hk)
    have hrw : ix m.rows ((L.getD k 0 : Nat) : Int) = m.rows.getD (L.getD k 0) default := ix_nat _ _
    have hed : (ix (m.rows.getD (L.getD k 0) default) (i : Int)).to = ed m (L.getD k 0) i := by rw [ix_nat]; rfl
    have hpos := pos_ok hm hc (hmem k hk) hi
    generalize ed m (L.getD k 0) i = t at *
    refine loop_eq (σ := Int) (fun F j st => gauntletref06_Part_L3 N m (castL L) (k : Int) (i : Int) F st (j : Int)) L.length (fun j st => st = if t ≠ -1 ∧ pos L t < (j : Int) then pos L t else -1) _ (fun F j st hj hst => ?_) (fun F st hst => ?_) N 0 _ (Nat.zero_le _) (by omega) (by
      rw [if_neg]; rintro ⟨h1, h2⟩; rcases hpos with ⟨_, h3⟩ | ⟨h3, _⟩ <;> omega)
    · subst hst
      right
      refine ⟨_, rfl, ?_⟩
      simp only [gauntletref06_Part_L3, castL_get hk, castL_get hj, hrw, hed]
      rw [cd_t (by rw [castL_len]; omega)]
      refine (bd_pos (x := if t ≠ -1 ∧ pos L t < ((j + 1 : Nat) : Int) then pos L t else -1) ?_).trans (gd_pos (in64_of (by omega)))
      rw [gd_pos (okI_nat (by rw [castL_len]; exact hj))]
      by_cases he : ((L.getD j 0 : Nat) : Int) = t
      · rw [cd_t he]
        have hp : pos L t = (j : Int) := by
          rw [← he]; unfold pos
          rw [if_neg (by omega), Int.toNat_natCast, idx_getD hc.nd hj]
        rw [hp, if_pos ⟨by omega, by omega⟩]
      · rw [cd_f he]
        congr 1
        by_cases ht : t = -1
        · rw [if_neg (fun h => h.1 ht), if_neg (fun h => h.1 ht)]
        · rcases hpos with ⟨_, h⟩ | ⟨h1, h2, h3, h4⟩
          · exact absurd h ht
          · have hne : pos L t ≠ (j : Int) := fun e => he (by rw [e, Int.toNat_natCast] at h4; omega)
            by_cases hlt : pos L t < (j : Int)
            · rw [if_pos ⟨ht, hlt⟩, if_pos ⟨ht, by omega⟩]
            · rw [if_neg (fun h => hlt h.2), if_neg (fun h => by have := h.2; omega)]
    · subst hst
      simp only [gauntletref06_Part_L3]
      rw [cd_f (by rw [castL_len]; omega)]
      congr 1
      rcases hpos with ⟨h1, h2⟩ | ⟨h1, h2, h3, _⟩
      · rw [if_neg (fun h => h.1 h2), h1]
      · rw [if_pos ⟨by omega, h2⟩]
  have hL2 : ∀ k, k < L.length → gauntletref06_Part_L2 N m (castL L) (k : Int) N [] 0 = some (rowP m L (L.getD k 0)) := fun k hk => by
    have hx := hc.rng _ (hmem k hk)
    have hmr := hm.row _ hx
    have hrl := rowP_len (L := L) hm hx
    have hrw : ix m.rows ((L.getD k 0 : Nat) : Int) = m.rows.getD (L.getD k 0) default := ix_nat _ _
    refine loop_eq (σ := List Edge) (fun F i st => gauntletref06_Part_L2 N m (castL L) (k : Int) F st (i : Int)) m.inputs.toNat (fun i st => st = (rowP m L (L.getD k 0)).take i) _ (fun F i st hi hst => ?_) (fun F st hst => ?_) N 0 _ (Nat.zero_le _) (by omega) (by simp)
    · subst hst
      right
      refine ⟨_, rfl, ?_⟩
      simp only [gauntletref06_Part_L2, castL_get hk, hrw]
      rw [cd_t (by omega), gd_pos (okI_nat (by rw [castL_len]; exact hk)), gd_pos (okI_nat hx), gd_pos (okI_nat (by omega)), bd_pos (hL3 k i hk hi)]
      have hfit : fits 16 ((rowP m L (L.getD k 0)).take i) ([(⟨pos L (ed m (L.getD k 0) i), (ix (m.rows.getD (L.getD k 0) default) (i : Int)).out⟩ : Edge)] : List Edge) := by
        have : ((rowP m L (L.getD k 0)).take i).length ≤ 16 := by rw [List.length_take]; omega
        exact ⟨by simp only [List.length_singleton]; omega, by simp only [List.length_singleton]; omega⟩
      rw [gd_pos hfit, gd_pos (in64_of (by omega)), take_snocG _ _ (show i < (rowP m L (L.getD k 0)).length by omega), rowP_get hm hx hi, ix_nat]; rfl
    · subst hst
      simp only [gauntletref06_Part_L2]
      rw [cd_f (by omega), ← hrl, List.take_length]
  have hL1 : gauntletref06_Part_L1 N m (castL L) N 0 [] = some (L.map (rowP m L)) := by
    have hml : (L.map (rowP m L)).length = L.length := by simp
    refine loop_eq (σ := List (List Edge)) (fun F k st => gauntletref06_Part_L1 N m (castL L) F (k : Int) st) L.length (fun k st => st = (L.map (rowP m L)).take k) _ (fun F k st hk hst => ?_) (fun F st hst => ?_) N 0 _ (Nat.zero_le _) (by omega) (by simp)
    · subst hst
      right
      refine ⟨_, rfl, ?_⟩
      simp only [gauntletref06_Part_L1]
      rw [cd_t (by rw [castL_len]; omega), bd_pos (hL2 k hk)]
      have hfit : fits 24 ((L.map (rowP m L)).take k) ([rowP m L (L.getD k 0)] : List (List Edge)) := by
        have : ((L.map (rowP m L)).take k).length ≤ 64 := by rw [List.length_take]; omega
        exact ⟨by simp only [List.length_singleton]; omega, by simp only [List.length_singleton]; omega⟩
      rw [gd_pos hfit, gd_pos (in64_of (by omega)), take_snocG _ _ (show k < (L.map (rowP m L)).length by omega)]
      have : (L.map (rowP m L)).getD k default = rowP m L (L.getD k 0) := by simp [List.getD_eq_getElem?_getD, hk]
      rw [this]; rfl
    · subst hst
      simp only [gauntletref06_Part_L1]
      rw [cd_f (by rw [castL_len]; omega), ← hml, List.take_length]
  rw [bd_pos hL1]; rfl
theorem machine_eq {N : Nat} {m : Mach} (hs : Small m) (hN : 200 ≤ N) : gauntletlaw06_machine N m 0 m = some true := by
  have hr := hs.r
  unfold gauntletlaw06_machine
  rw [bd_gop (fun _ => rsame_eq hs hN)]
  have hL : gauntletlaw06_machine_L1 N m N 0 = some (.go ()) := by
    refine loop_eq (σ := Unit) (fun F k _ => gauntletlaw06_machine_L1 N m F (k : Int)) m.rows.length (fun _ _ => True) _ (fun F k _ hk _ => ?_) (fun F _ _ => ?_) N 0 () (Nat.zero_le _) (by omega) trivial
    · right
      refine ⟨(), trivial, ?_⟩
      simp only [gauntletlaw06_machine_L1]
      rw [cd_t (by omega), gd_pos (okI_nat hk), gd_pos (okI_nat hk), cd_f (by simp)]
      exact gd_pos (in64_of (by omega))
    · simp only [gauntletlaw06_machine_L1]
      rw [cd_f (by omega)]
  refine (cf (by simp)).trans ?_
  rw [bd_pos hL]; rfl
end GV
end Go.Proofs.Ytncblcdhmcmkmaa
