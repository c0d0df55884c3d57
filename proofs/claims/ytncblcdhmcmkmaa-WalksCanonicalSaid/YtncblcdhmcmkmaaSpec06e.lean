/- Chapter 06: access words, reached states, paths, distances. -/
import Derived.Test.YtncblcdhmcmkmaaSpec06d
namespace Go.Proofs.Ytncblcdhmcmkmaa
namespace GV
set_option linter.unusedVariables false
set_option maxRecDepth 100000

theorem check0 {N : Nat} {m : Mach} (hm : MOk m) (hN : 200 ≤ N) : machines_Check N m = some 0 := by rw [check_eq hm.small hN, (checkM_iff m).2 hm]
theorem access_eq {N : Nat} {m : Mach} (hm : MOk m) (hN : 200 ≤ N) : walks_Access N m = some (wordsL m.rows.length (rch m 0), seenL m.rows.length (rch m 0), 0) := by
  have hr1 := hm.r1
  unfold walks_Access
  rw [bd_pos (check0 hm hN), cd_f (by simp), bd_pos (show walks_paths N m 0 = _ from paths_eq hm hN (s0 := 0) (by omega))]
theorem raccess_eq {N : Nat} {m : Mach} (hm : MOk m) (hN : 400 ≤ N) (h6 : m.rows.length ≤ 6) (h3 : m.inputs ≤ 3) : gauntletref06_Access N m = some (wordsL m.rows.length (rch m 0), seenL m.rows.length (rch m 0)) := by
  have hr1 := hm.r1
  unfold gauntletref06_Access
  rw [bd_pos (show gauntletref06_Paths N m 0 = _ from rpaths_eq hm hN h6 h3 (s0 := 0) (by omega))]
def stsL (P : List BE) : List Int := P.map fun e => (e.st : Int)
theorem reached_eq' {N : Nat} {m : Mach} (hm : MOk m) (hN : 200 ≤ N) : walks_reached N m = some (stsL (rch m 0)) := by
  have hr1 := hm.r1
  have hr2 := hm.r2
  have hP := rch_ok hm (s0 := 0) (by omega)
  generalize hPe : rch m 0 = P at hP ⊢
  have hple := hP.le
  unfold walks_reached
  rw [bd_pos (show walks_arrivals N m 0 = some (m, 0) from rfl)]
  have key := arr_eq (N := N) hm hN (s0 := 0) (by omega) (σ := List Int) (fun y22 x23 =>
    gd (fits 8 x23 ([y22.f_state] : List Int)) <|
    some (true, (x23 ++ ([y22.f_state] : List Int)))) (fun k => stsL (P.take k)) (fun k hk => ?_)
  · rw [bd_pos (show walks_arrivals_1 N m 0 (List Int) _ ([] : List Int) = _ from key), hPe, List.take_length]
  · rw [hPe] at hk ⊢
    have hfit : fits 8 (stsL (P.take k)) ([((P.getD k default).st : Int)] : List Int) := by
      have : (stsL (P.take k)).length ≤ 64 := by unfold stsL; rw [List.length_map, List.length_take]; omega
      exact ⟨by simp only [List.length_singleton]; omega, by simp only [List.length_singleton]; omega⟩
    show gd (fits 8 (stsL (P.take k)) ([((P.getD k default).st : Int)] : List Int)) (some (true, (stsL (P.take k) ++ ([((P.getD k default).st : Int)] : List Int)))) = _
    rw [gd_pos hfit, take_snocB P k hk]
    unfold stsL
    rw [List.map_append]; rfl
theorem vals_fold {N : Nat} {l : List Int} (hN : l.length < N) (hl : l.length ≤ 1000000) {σ : Type} (B : Int → σ → Option (Bool × σ)) (f : Nat → σ) (hB : ∀ k, k < l.length → B (l.getD k default) (f k) = some (true, f (k + 1))) : slices_Values_int_1 N l σ B (f 0) = some (f l.length) := by
  unfold slices_Values_int_1
  refine loop_eq (σ := σ) (fun F k s => slices_Values_int_1_L1 N σ B l F s (k : Int)) l.length (fun k s => s = f k) _ (fun F k s hk hi => ?_) (fun F s hi => ?_) N 0 (f 0) (Nat.zero_le _) (by omega) rfl
  · subst hi
    right
    refine ⟨_, rfl, ?_⟩
    simp only [slices_Values_int_1_L1]
    rw [cd_t (by omega), gd_pos (okI_nat hk), ix_nat]
    refine (bd_pos (hB k hk)).trans ?_
    refine (cf (b := !(true, f (k + 1)).1) rfl).trans ?_
    exact gd_pos (in64_of (by omega))
  · subst hi
    simp only [slices_Values_int_1_L1]
    rw [cd_f (by omega)]
theorem appseq_eq {N : Nat} {s l : List Int} (hN : l.length < N) (hl : s.length + l.length ≤ 1000000) : slices_AppendSeq_int_o N s l = some (s ++ l) := by
  unfold slices_AppendSeq_int_o
  have key := vals_fold (N := N) hN (by omega) (fun y5 x6 =>
    gd (fits 8 x6 ([y5] : List Int)) <|
    some (true, (x6 ++ ([y5] : List Int)))) (fun k => s ++ l.take k) (fun k hk => ?_)
  · rw [List.take_zero, List.append_nil, List.take_length] at key
    rw [bd_pos key]
  · have hfit : fits 8 (s ++ l.take k) ([l.getD k default] : List Int) := by
      have : (s ++ l.take k).length ≤ 1000000 := by rw [List.length_append, List.length_take]; omega
      exact ⟨by simp only [List.length_singleton]; omega, by simp only [List.length_singleton]; omega⟩
    rw [gd_pos hfit, take_snoc l k hk, List.append_assoc]
theorem sorted_eq {N : Nat} {l : List Int} (hN : l.length < N) (h0 : 0 < l.length) (hl : l.length ≤ 1000000) : slices_Sorted_int N l = some (sortI l) := by
  unfold slices_Sorted_int slices_Collect_int_o
  rw [bd_pos (show (bd (slices_AppendSeq_int_o N [] l) fun y2 => some y2) = some l from by rw [bd_pos (appseq_eq hN (by simp; omega))]; rfl)]
  unfold slices_Sort_int
  rw [gd_pos ⟨h0, by omega⟩]; rfl
theorem reach_eq {N : Nat} {m : Mach} (hm : MOk m) (hN : 200 ≤ N) : walks_Reach N m = some (sortI (stsL (rch m 0)), 0) := by
  have hr1 := hm.r1
  have hr2 := hm.r2
  have hP := rch_ok hm (s0 := 0) (by omega)
  have h1 : (stsL (rch m 0)).length = (rch m 0).length := by simp [stsL]
  have hle := hP.le
  have hpos := hP.pos
  unfold walks_Reach
  rw [bd_pos (check0 hm hN), cd_f (by simp), bd_pos (reached_eq' hm hN), bd_pos (show slices_Values_int N _ = some _ from rfl), bd_pos (sorted_eq (by omega) (by omega) (by omega)), bd_pos clip_eq]
/-- The states that are reached, in ascending order. -/
def ascL (n : Nat) (P : List BE) : List Int := ((List.range n).filter fun s => occ P s).map fun s => ((s : Nat) : Int)
theorem asc_sorted (n : Nat) (P : List BE) : (ascL n P).Pairwise (· ≤ ·) := by
  unfold ascL
  rw [List.pairwise_map]
  exact ((List.pairwise_lt_range (n := n)).filter _).imp fun h => by omega
theorem sort_asc {m : Mach} {s0 : Nat} {P : List BE} (h : Rch m s0 P) : sortI (stsL P) = ascL m.rows.length P := by
  refine perm_sorted_eq ((sortI_perm _).trans ?_) (sortI_sorted _) (asc_sorted _ _)
  unfold stsL ascL
  have e : (P.map fun e => (e.st : Int)) = (P.map (·.st)).map fun s => ((s : Nat) : Int) := by rw [List.map_map]; rfl
  rw [e]
  refine List.Perm.map _ ?_
  have hnd : (P.map (·.st)).Nodup := by
    rw [List.nodup_iff_pairwise_ne, List.pairwise_iff_getElem]
    intro i j hi hj hij e
    rw [List.length_map] at hi hj
    rw [List.getElem_map, List.getElem_map] at e
    have := h.dis i j hi hj (by simpa [List.getD_eq_getElem?_getD, hj, hi] using e)
    omega
  have hnd2 : ((List.range m.rows.length).filter fun s => occ P s).Nodup := List.Pairwise.filter _ List.nodup_range
  rw [List.perm_ext_iff_of_nodup hnd hnd2]
  intro a
  rw [List.mem_map, List.mem_filter, List.mem_range, occ_iff]
  constructor
  · rintro ⟨x, hx, rfl⟩
    obtain ⟨j, hj, rfl⟩ := List.mem_iff_getElem.1 hx
    have hg : P.getD j default = P[j] := by simp [List.getD_eq_getElem?_getD, hj]
    exact ⟨by rw [← hg]; exact h.rng j hj, j, hj, by rw [hg]⟩
  · rintro ⟨_, j, hj, rfl⟩
    exact ⟨_, getD_mem hj, rfl⟩
theorem state_eq {N : Nat} {m : Mach} (hm : MOk m) (hN : 200 ≤ N) {l : List Int} (hl : ∀ s ∈ l, 0 ≤ s ∧ s < (m.rows.length : Int)) (hlen : l.length ≤ 10) : walks_state N m l = some 0 := by
  unfold walks_state
  rw [bd_pos (check0 hm hN), cd_f (by simp), bd_pos (containsI (p := fun s => decide (s < 0) || decide ((m.rows.length : Int) ≤ s)) (fun k hk => rfl) (by omega) (by omega))]
  have : (l.any fun s => decide (s < 0) || decide ((m.rows.length : Int) ≤ s)) = false := by
    rw [List.any_eq_false]
    intro s hs
    have := hl s hs
    simp; omega
  rw [this]; rfl
theorem path_eq {N : Nat} {m : Mach} (hm : MOk m) (hN : 200 ≤ N) {s t : Nat} (hs : s < m.rows.length) (ht : t < m.rows.length) : walks_Path N m (s : Int) (t : Int) = some (wdOf (rch m s) t, occ (rch m s) t, 0) := by
  unfold walks_Path
  rw [bd_pos (state_eq hm hN (l := [(s : Int), (t : Int)]) (fun x hx => by simp at hx; rcases hx with rfl | rfl <;> omega) (by simp)), cd_f (by simp), bd_pos (paths_eq hm hN hs)]
  rw [gd_pos (okI_nat (by rw [wordsL_len]; exact ht)), gd_pos (okI_nat (by rw [seenL_len]; exact ht)), ix_nat, ix_nat, wordsL_get ht, seenL_get ht]
def dist (P : List BE) (t : Nat) : Int := if occ P t = true then ((wdOf P t).length : Int) else -1
def distL (n : Nat) (P : List BE) : List Int := (List.range n).map (dist P)
theorem dist_eq {N : Nat} {m : Mach} (hm : MOk m) (hN : 200 ≤ N) {s : Nat} (hs : s < m.rows.length) : walks_Distances N m (s : Int) = some (distL m.rows.length (rch m s), 0) := by
  have hr2 := hm.r2
  have hP := rch_ok hm hs
  unfold walks_Distances
  rw [bd_pos (state_eq hm hN (l := [(s : Int)]) (fun x hx => by simp at hx; subst hx; omega) (by simp)), cd_f (by simp), bd_pos (paths_eq hm hN hs)]
  generalize rch m s = P at hP ⊢
  have hwl := wordsL_len m.rows.length P
  dsimp only
  rw [gd_pos ⟨by omega, by omega, by omega⟩]
  have hL : walks_Distances_L1 N (wordsL m.rows.length P, seenL m.rows.length P) N 0 (mk ((wordsL m.rows.length P).length : Int) (0 : Int)) = some (distL m.rows.length P) := by
    refine loop_eq (σ := List Int) (fun F k st => walks_Distances_L1 N (wordsL m.rows.length P, seenL m.rows.length P) F (k : Int) st) m.rows.length
      (fun k st => st = (List.range k).map (dist P) ++ List.replicate (m.rows.length - k) 0) _ (fun F k st hk hi => ?_) (fun F st hi => ?_) N 0 _ (Nat.zero_le _) (by omega) (by rw [mk_nat, hwl]; simp)
    · subst hi
      right
      refine ⟨_, rfl, ?_⟩
      have hX : ((List.range k).map (dist P)).length = k := by simp
      have hlen : ((List.range k).map (dist P) ++ List.replicate (m.rows.length - k) (0 : Int)).length = m.rows.length := by simp; omega
      have hnext : ∀ z, ((List.range k).map (dist P) ++ List.replicate (m.rows.length - k) (0 : Int)).set k z = ((List.range k).map (dist P) ++ [z]) ++ List.replicate (m.rows.length - (k + 1)) 0 := fun z => set_next _ _ _ _ hX hk
      simp only [walks_Distances_L1]
      rw [cd_t (by omega)]
      refine (bd_pos (x := (List.range (k + 1)).map (dist P) ++ List.replicate (m.rows.length - (k + 1)) 0) ?_).trans ?_
      · rw [gd_pos (okI_nat (by omega)), gd_pos (okI_nat (by omega)), gd_pos (okI_nat (by rw [seenL_len]; exact hk))]
        simp only [ix_nat, seenL_get hk, wordsL_get hk]
        rw [range_snoc]
        cases ho : occ P k
        · rw [cf rfl, up_nat, hnext]
          unfold dist
          rw [ho, if_neg (by decide)]
        · rw [ct rfl, gd_pos (okI_nat (by rw [up_nat, List.length_set]; omega)), up_nat, up_nat, List.set_set, hnext]
          unfold dist
          rw [ho, if_pos rfl]
      · rw [gd_pos (in64_of (by omega))]; rfl
    · subst hi
      simp only [walks_Distances_L1]
      rw [cd_f (by omega), Nat.sub_self, List.replicate_zero, List.append_nil]
      rfl
  rw [bd_pos hL]
end GV
end Go.Proofs.Ytncblcdhmcmkmaa
