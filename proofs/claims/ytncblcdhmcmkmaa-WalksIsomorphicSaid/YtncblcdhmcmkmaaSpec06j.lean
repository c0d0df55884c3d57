/- Chapter 06: the law Isomorphic. -/
import Derived.Test.YtncblcdhmcmkmaaSpec06i
namespace Go.Proofs.Ytncblcdhmcmkmaa
namespace GV
set_option linter.unusedVariables false
set_option maxRecDepth 100000

theorem bd_ex {α β : Type} {e : Option α} {k : α → Option β} {P : α → Prop} {r : Option β} (h : ∃ v, e = some v ∧ P v) (hk : ∀ v, P v → k v = r) : bd e k = r := by
  obtain ⟨v, hv, hp⟩ := h
  rw [bd_pos hv]; exact hk v hp
theorem isom_L1 {m : Mach} (hr : m.rows.length ≤ 64) : gauntletlaw06_WalksIsomorphic_L1 2000 m 2000 [] 0 = some (castL (List.range m.rows.length)) := by
  refine loop_eq (σ := List Int) (fun F k st => gauntletlaw06_WalksIsomorphic_L1 2000 m F st (k : Int)) m.rows.length (fun k st => st = castL (List.range k)) _ (fun F k st hk hst => ?_) (fun F st hst => ?_) 2000 0 _ (Nat.zero_le _) (by omega) rfl
  · subst hst
    right
    refine ⟨_, rfl, ?_⟩
    simp only [gauntletlaw06_WalksIsomorphic_L1]
    have hl : (castL (List.range k)).length = k := by rw [castL_len, List.length_range]
    rw [cd_t (by omega), gd_pos ⟨by simp only [List.length_singleton]; omega, by simp only [List.length_singleton]; omega⟩, gd_pos (in64_of (by omega)), castL_range]; rfl
  · subst hst
    simp only [gauntletlaw06_WalksIsomorphic_L1]
    rw [cd_f (by omega)]
theorem isom_L2 {a c : Mach} (ha : MOk a) (hc : MOk c) (h6 : a.rows.length ≤ 6) (h : canM a = canM c) :
    gauntletlaw06_WalksIsomorphic_L2 2000 (c.inputs, c.outputs, c.rows) (isoL a.rows.length (rch a 0) (rch c 0), true, 0) (wordsL a.rows.length (rch a 0), seenL a.rows.length (rch a 0)) 2000 0 = some (.go ()) := by
  have hP := rch0 ha
  obtain ⟨hi, hl, haft⟩ := canM_eq_facts ha hc h
  have hcr := hc.r1
  generalize rch a 0 = P at *
  generalize rch c 0 = Q at *
  refine loop_eq (σ := Unit) (fun F k _ => gauntletlaw06_WalksIsomorphic_L2 2000 (c.inputs, c.outputs, c.rows) (isoL a.rows.length P Q, true, 0) (wordsL a.rows.length P, seenL a.rows.length P) F (k : Int)) a.rows.length (fun _ _ => True) _ (fun F k _ hk _ => ?_) (fun F _ _ => ?_) 2000 0 () (Nat.zero_le _) (by omega) trivial
  · right
    refine ⟨(), trivial, ?_⟩
    have hwix : ix (wordsL a.rows.length P) (k : Int) = wdOf P k := by rw [ix_nat, wordsL_get hk]
    have hixs : ix (seenL a.rows.length P) (k : Int) = occ P k := by rw [ix_nat, seenL_get hk]
    have hii : ix (isoL a.rows.length P Q) (k : Int) = isoV P Q k := by rw [ix_nat, isoL_get hk]
    simp only [gauntletlaw06_WalksIsomorphic_L2, hwix, hixs, hii, mach_eta]
    rw [cd_t (by rw [isoL_len]; omega)]
    refine (bd_pos (x := isoV P Q k) ?_).trans ?_
    · rw [gd_pos (okI_nat (by rw [seenL_len]; exact hk))]
      unfold isoV
      cases ho : occ P k
      · rw [cf rfl, if_neg (by decide)]
      · rw [ct rfl, gd_pos (okI_nat (by rw [wordsL_len]; exact hk)), if_pos rfl]
        obtain ⟨j, hj, hst, hw⟩ := occ_word hP ho
        have hwok := hP.wok j hj
        have hle := hP.le
        have := raft_eq (N := 2000) hc 2000 0 (wdOf P k) (.inr ⟨by omega, by omega⟩) (by rw [hw, ← hi]; exact hwok.1) (by rw [hw]; omega)
        rw [bd_pos this]
        have h2 := haft j hj
        rw [← hw] at h2
        rw [h2, ← hst, ord_idx hP hj]
    · rw [gd_pos (okI_nat (by rw [isoL_len]; exact hk)), cd_f (by simp)]
      exact gd_pos (in64_of (by omega))
  · simp only [gauntletlaw06_WalksIsomorphic_L2]
    rw [cd_f (by rw [isoL_len]; omega)]
theorem isomorphic_law {x y : MDat} {sw : Int × Int} (hx : MDOk x) (hy : MDOk y) (h1 : 0 ≤ sw.1 ∧ sw.1 ≤ 255) (h2 : 0 ≤ sw.2 ∧ sw.2 ≤ 255) : gauntletlaw06_WalksIsomorphic 2000 x y sw = some true := by
  have ha := mOf_ok hx
  obtain ⟨h6, h3⟩ := mOf_6 hx
  have hb := mOf_ok hy
  obtain ⟨k6, k3⟩ := mOf_6 hy
  unfold gauntletlaw06_WalksIsomorphic
  rw [bd_pos (mof_eq hx (by decide)), bd_pos (mof_eq hy (by decide))]
  simp only [mach_eta]
  generalize mOf x = a at *
  generalize mOf y = b at *
  have hr1 := ha.r1
  have hr2 := ha.r2
  refine bd_ex (P := fun v => ∃ c : Mach, v = (c.inputs, c.outputs, c.rows) ∧ MOk c ∧ c.rows.length ≤ 6 ∧ c.inputs ≤ 3) ?_ ?_
  · rw [gd_pos ⟨h1.1, by omega⟩]
    by_cases hc : sw.1 % 2 = 0 ∧ 1 < a.rows.length
    · obtain ⟨hc1, hc2⟩ := hc
      have hu1 := Int.emod_nonneg sw.1 (show (a.rows.length : Int) - 1 ≠ 0 by omega)
      have hu2 := Int.emod_lt_of_pos sw.1 (show (0 : Int) < (a.rows.length : Int) - 1 by omega)
      have hv1 := Int.emod_nonneg sw.2 (show (a.rows.length : Int) - 1 ≠ 0 by omega)
      have hv2 := Int.emod_lt_of_pos sw.2 (show (0 : Int) < (a.rows.length : Int) - 1 by omega)
      have hlen : (castL (List.range a.rows.length)).length = a.rows.length := by rw [castL_len, List.length_range]
      have hin1 : in64 ((a.rows.length : Int) - 1) := in64_of (by omega)
      have hoR : ∀ {z : Int}, 0 ≤ z → okR z ((a.rows.length : Int) - 1) := fun h => ⟨h, by omega⟩
      have hwu : in64 (1 + sw.1 % ((a.rows.length : Int) - 1)) := in64_of (by omega)
      have hwv : in64 (1 + sw.2 % ((a.rows.length : Int) - 1)) := in64_of (by omega)
      obtain ⟨i, hie⟩ := Int.eq_ofNat_of_zero_le (show 0 ≤ 1 + sw.1 % ((a.rows.length : Int) - 1) by omega)
      obtain ⟨j, hje⟩ := Int.eq_ofNat_of_zero_le (show 0 ≤ 1 + sw.2 % ((a.rows.length : Int) - 1) by omega)
      have hi1 : 1 ≤ i ∧ i < a.rows.length := by omega
      have hj1 : 1 ≤ j ∧ j < a.rows.length := by omega
      have hN := num_range a.rows.length hr1
      have hL := num_swap hN hi1 hj1
      have hcl := num_closed ha hL
      refine ⟨((partM a (swapN (List.range a.rows.length) i j)).inputs, (partM a (swapN (List.range a.rows.length) i j)).outputs, (partM a (swapN (List.range a.rows.length) i j)).rows), ?_, _, rfl, partM_ok ha hcl, by rw [partM_len, hL.len]; exact h6, h3⟩
      refine (ct (by rw [decide_eq_true hc1, decide_eq_true (by omega)]; rfl)).trans ?_
      refine (bd_pos (isom_L1 hr2)).trans ?_
      simp only [hlen]
      rw [gd_pos (in64_of (by omega)), gd_pos hin1, gd_pos (hoR h1.1), gd_pos hwu, gd_pos (in64_of (by omega)), gd_pos hin1, gd_pos (hoR h2.1), gd_pos hwv, hie, hje]
      have oka : okI (castL (List.range a.rows.length)) (i : Int) := okI_nat (by omega)
      have okb : okI (castL (List.range a.rows.length)) (j : Int) := okI_nat (by omega)
      rw [gd_pos okb, gd_pos oka, gd_pos oka, gd_pos okb, up_swap hN.len hi1.2 hj1.2, bd_pos (rpart_eq (N := 2000) ha hcl (by decide))]
    · refine ⟨(b.inputs, b.outputs, b.rows), cf ?_, b, rfl, hb, k6, k3⟩
      by_cases h : sw.1 % 2 = 0
      · rw [decide_eq_false (show ¬ (1 : Int) < (a.rows.length : Int) by omega), Bool.and_false]
      · rw [decide_eq_false h]; rfl
  · rintro v ⟨c, rfl, hcm, c6, c3⟩
    simp only [mach_eta]
    refine (bd_pos (iso_eq (N := 2000) ha hcm (by decide))).trans ?_
    refine (bd_pos (rcanon_eq (N := 2000) ha (by decide) h6 h3)).trans ?_
    refine (bd_pos (rcanon_eq (N := 2000) hcm (by decide) c6 c3)).trans ?_
    refine (bd_pos (rsame_eq (N := 2000) (canM_ok ha).small (by decide))).trans ?_
    by_cases h : canM a = canM c
    · simp only [if_pos h, decide_eq_true h]
      refine (cf rfl).trans ?_
      refine (cf rfl).trans ?_
      refine (bd_pos (raccess_eq (N := 2000) ha (by decide) h6 h3)).trans ?_
      refine (cf ?_).trans ?_
      · rw [isoL_len, wordsL_len]; simp
      refine (bd_pos (isom_L2 ha hcm h6 h)).trans ?_
      rw [on_g, bd_pos lives_eq]
    · simp only [if_neg h, decide_eq_false h]
      refine (cf rfl).trans ?_
      refine (ct rfl).trans ?_
      exact (g_bd rfl lives_eq).trans rfl
end GV
end Go.Proofs.Ytncblcdhmcmkmaa
