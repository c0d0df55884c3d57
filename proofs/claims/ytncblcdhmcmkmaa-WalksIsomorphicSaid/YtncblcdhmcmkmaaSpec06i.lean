/- Chapter 06: which states correspond to each other; the law Isomorphic. -/
import Derived.Test.YtncblcdhmcmkmaaSpec06h
namespace Go.Proofs.Ytncblcdhmcmkmaa
namespace GV
set_option linter.unusedVariables false
set_option maxRecDepth 100000

theorem cmpor_eq {N : Nat} (hN : 200 ≤ N) (e : Int) : cmp_Or_api_Errno N [0, e] = some e := by
  unfold cmp_Or_api_Errno
  obtain ⟨M, rfl⟩ : ∃ M, N = M + 3 := ⟨N - 3, by omega⟩
  by_cases h : e = 0
  · subst h
    have : cmp_Or_api_Errno_L1 (M + 3) [0, 0] (M + 3) 0 = some (Ex.go ()) := by
      simp only [cmp_Or_api_Errno_L1]
      rw [cd_t (by simp), gd_pos ⟨by simp, by simp⟩, cd_f (by simp [ix]), gd_pos (in64_of (by simp)), cd_t (by simp), gd_pos ⟨by simp, by simp⟩, cd_f (by simp [ix]), gd_pos (in64_of (by simp)), cd_f (by simp)]
    rw [bd_pos this]; rfl
  · have : cmp_Or_api_Errno_L1 (M + 3) [0, e] (M + 3) 0 = some (Ex.rt e) := by
      simp only [cmp_Or_api_Errno_L1]
      rw [cd_t (by simp), gd_pos ⟨by simp, by simp⟩, cd_f (by simp [ix]), gd_pos (in64_of (by simp)), cd_t (by simp), gd_pos ⟨by simp, by simp⟩, cd_t (by simpa [ix] using h)]
      simp [ix]
    rw [bd_pos this]; rfl
theorem wrap_u64 {n : Int} (h0 : 0 ≤ n) (h : n < 18446744073709551616) : IntKind.u64.wrap n = n := by
  simp only [IntKind.wrap, IntKind.signed, IntKind.bits, Bool.false_and]
  exact Int.emod_eq_of_lt h0 h
/-- What is filled so far. -/
def filL (n k : Nat) : List Int := List.replicate k (-1) ++ List.replicate (n - k) 0
theorem copy_fil {n k j : Nat} (hk : k ≤ n) (hj : j ≤ k) (hjn : j ≤ n - k) : copyL (filL n k) k (List.replicate j (-1)) = filL n (k + j) := by
  unfold copyL filL
  rw [List.length_replicate, List.take_left' (by simp), ← List.drop_drop, List.drop_left' (by simp), List.drop_replicate, List.replicate_append_replicate, Nat.sub_sub]
theorem take_fil {n k j : Nat} (hj : j ≤ k) : (filL n k).take j = List.replicate j (-1) := by
  unfold filL
  rw [List.take_append_of_le_length (by simpa using hj), List.take_replicate, Nat.min_eq_left hj]
theorem fil_len {n k : Nat} (hk : k ≤ n) : (filL n k).length = n := by unfold filL; simp; omega
theorem rep_L1 {N : Nat} {n : Nat} (hn : n ≤ 1000) : ∀ (F k : Nat), 1 ≤ k → k ≤ n → n - k < F → slices_Repeat_int_o_L1 N F (k : Int) (filL n k) = some (List.replicate n (-1))
  | 0, k, _, _, h => by omega
  | F + 1, k, h1, h2, h => by
    simp only [slices_Repeat_int_o_L1, fil_len h2]
    by_cases hk : k < n
    · rw [cd_t (by omega), gd_pos ⟨by omega, by omega, by rw [fil_len h2]; omega⟩, gd_pos ⟨by omega, by omega, by rw [fil_len h2]; omega⟩]
      simp only [Int.toNat_natCast, Nat.sub_zero, List.drop_zero]
      rw [gd_pos (in64_of (by omega)), take_fil (Nat.min_le_left _ _), copy_fil h2 (Nat.min_le_left _ _) (Nat.min_le_right _ _)]
      have : (k : Int) + ((min k (n - k) : Nat) : Int) = ((k + min k (n - k) : Nat) : Int) := by omega
      rw [this]
      exact rep_L1 hn F _ (by omega) (by omega) (by omega)
    · rw [cd_f (by omega)]
      have : k = n := by omega
      subst this
      unfold filL
      rw [Nat.sub_self, List.replicate_zero, List.append_nil]
theorem repeat_eq {N : Nat} (hN : 200 ≤ N) {n : Nat} (h1 : 1 ≤ n) (h2 : n ≤ 100) : slices_Repeat_int_o N [-1] (n : Int) = some (List.replicate n (-1)) := by
  unfold slices_Repeat_int_o
  have hm : math_bits_Mul N (IntKind.u64.wrap (([-1] : List Int).length : Int)) (IntKind.u64.wrap (n : Int)) = some (0, (n : Int)) := by
    rw [wrap_u64 (by simp) (by simp), wrap_u64 (by omega) (by omega)]
    unfold math_bits_Mul
    rw [gd_pos ⟨⟨by simp, by simp⟩, by omega, by omega⟩]
    congr 1
    have : (([-1] : List Int).length : Int) = 1 := rfl
    rw [this, Int.one_mul, Int.ediv_eq_zero_of_lt (by omega) (by omega), Int.emod_eq_of_lt (by omega) (by omega)]
  rw [cd_f (by omega), bd_pos hm]
  refine (cf ?_).trans ?_
  · show (decide ((0 : Int) < 0) || decide ((9223372036854775807 : Int) < (n : Int))) = false
    rw [decide_eq_false (show ¬ (9223372036854775807 : Int) < (n : Int) by omega)]; rfl
  have hl : (mk (n : Int) (0 : Int)).length = n := by rw [mk_nat, List.length_replicate]
  have hmin : min ([-1] : List Int).length (mk (n : Int) (0 : Int)).length = 1 := by rw [hl]; simp; omega
  show gd (in64 (n : Int)) (gd (okM 8 (n : Int)) (bd (slices_Repeat_int_o_L1 N N _ _) fun o37 => some o37)) = _
  rw [gd_pos (in64_of (by omega)), gd_pos ⟨by omega, by omega, by omega⟩, hmin]
  have e : copyL (mk (n : Int) (0 : Int)) 0 (([-1] : List Int).take 1) = filL n 1 := by
    unfold copyL filL
    rw [mk_nat, List.take_zero, List.nil_append]
    simp [List.drop_replicate]
  rw [e, bd_pos (rep_L1 (by omega) N 1 (by omega) h1 (by omega))]
/-- To which state each one corresponds. -/
def isoV (P Q : List BE) (s : Nat) : Int := if occ P s = true then ((Q.getD ((ordN P).idxOf s) default).st : Int) else -1
def isoL (n : Nat) (P Q : List BE) : List Int := (List.range n).map (isoV P Q)
theorem isoL_len (n : Nat) (P Q : List BE) : (isoL n P Q).length = n := by simp [isoL]
theorem isoL_get {n s : Nat} {P Q : List BE} (h : s < n) : (isoL n P Q).getD s default = isoV P Q s := by simp [isoL, List.getD_eq_getElem?_getD, h]
theorem stsL_get {P : List BE} {k : Nat} (hk : k < P.length) : ix (stsL P) (k : Int) = ((P.getD k default).st : Int) := by
  rw [ix_nat]; unfold stsL
  rw [List.getD_eq_getElem?_getD, List.getElem?_map, List.getD_eq_getElem?_getD, List.getElem?_eq_getElem hk]; rfl
theorem stsL_len (P : List BE) : (stsL P).length = P.length := by simp [stsL]
theorem ord_idx {m : Mach} {s0 : Nat} {P : List BE} (hP : Rch m s0 P) {j : Nat} (hj : j < P.length) : (ordN P).idxOf (P.getD j default).st = j := by
  have := idx_getD (ord_nd hP) (show j < (ordN P).length by rw [ordN_len]; exact hj)
  rwa [ordN_get P hj] at this
theorem iso_L1 {N : Nat} {a b : Mach} (hN : 200 ≤ N) {P Q : List BE} (hP : Rch a 0 P) (hQ : Rch b 0 Q) (hr : a.rows.length ≤ 64) (hl : P.length = Q.length) :
    walks_Isomorphic_L1 N (stsL P) (stsL Q) N 0 (List.replicate a.rows.length (-1)) = some (isoL a.rows.length P Q) := by
  have hle := hP.le
  refine loop_eq (σ := List Int) (fun F k st => walks_Isomorphic_L1 N (stsL P) (stsL Q) F (k : Int) st) P.length
    (fun k st => st = (List.range a.rows.length).map fun s => if occ (P.take k) s = true then ((Q.getD ((ordN P).idxOf s) default).st : Int) else -1) _ (fun F k st hk hst => ?_) (fun F st hst => ?_) N 0 _ (Nat.zero_le _) (by omega) ?_
  · subst hst
    right
    refine ⟨_, rfl, ?_⟩
    have hrng := hP.rng k hk
    simp only [walks_Isomorphic_L1, stsL_get hk, stsL_get (show k < Q.length by omega)]
    rw [cd_t (by rw [stsL_len]; omega), gd_pos (okI_nat (by rw [stsL_len]; omega)), gd_pos (okI_nat (by rw [stsL_len]; omega)), gd_pos (okI_nat (by simpa using hrng)), gd_pos (in64_of (by omega))]
    rw [up_nat]
    congr 1
    refine ext_getD (by simp) fun s hs => ?_
    rw [List.length_set, List.length_map, List.length_range] at hs
    rw [getD_map_range _ hs, List.getD_eq_getElem?_getD, List.getElem?_set]
    rw [take_snocB P k hk, occ_snoc]
    by_cases e : (P.getD k default).st = s
    · subst e
      rw [if_pos rfl, if_pos (by simpa using hs), decide_eq_true (rfl), Bool.or_true, if_pos rfl, ord_idx hP hk]; rfl
    · rw [if_neg e, ← List.getD_eq_getElem?_getD, getD_map_range _ hs, decide_eq_false e, Bool.or_false]
  · subst hst
    simp only [walks_Isomorphic_L1]
    rw [cd_f (by rw [stsL_len]; omega), List.take_length]; rfl
  · refine ext_getD (by simp) fun s hs => ?_
    rw [List.length_replicate] at hs
    rw [getD_map_range _ hs]
    simp [List.getD_eq_getElem?_getD, hs, occ]
theorem canM_eq_facts {a b : Mach} (ha : MOk a) (hb : MOk b) (h : canM a = canM b) : a.inputs = b.inputs ∧ (rch a 0).length = (rch b 0).length ∧ ∀ j, j < (rch a 0).length → aftL b 0 ((rch a 0).getD j default).wd = (((rch b 0).getD j default).st : Int) := by
  have hi : a.inputs = b.inputs := (mach_eq.1 h).1
  have hP := rch0 ha
  have hQ := rch0 hb
  have hl : (rch a 0).length = (rch b 0).length := by
    have := congrArg (fun m : Mach => m.rows.length) h
    simp only [canM, partM_len, ordN_len] at this
    exact this
  refine ⟨hi, hl, fun j hj => ?_⟩
  have hw := (hP.wok j hj).1
  have hwb : WOk b.inputs ((rch a 0).getD j default).wd := hi ▸ hw
  have h1 := canM_aft ha hw
  have haft : aftL a 0 ((rch a 0).getD j default).wd = (((rch a 0).getD j default).st : Int) := hP.aft j hj
  rw [haft, pos_nat, ord_idx hP hj, h, canM_aft hb hwb] at h1
  have hne : aftL b 0 ((rch a 0).getD j default).wd ≠ -1 := fun e => by
    rw [e] at h1
    have : pos (ordN (rch b 0)) (-1) = -1 := rfl
    omega
  obtain ⟨i, hi', hst, _⟩ := hQ.least hb _ _ rfl hwb hne
  rw [show ((0 : Nat) : Int) = 0 from rfl] at hst
  rw [← hst, pos_nat, ord_idx hQ hi'] at h1
  have : i = j := by omega
  subst this
  exact hst.symm
theorem iso_eq {N : Nat} {a b : Mach} (ha : MOk a) (hb : MOk b) (hN : 200 ≤ N) : walks_Isomorphic N a b = some (if canM a = canM b then (isoL a.rows.length (rch a 0) (rch b 0), true, 0) else ([], false, 0)) := by
  have hr1 := ha.r1
  have hr2 := ha.r2
  have hP := rch0 ha
  have hQ := rch0 hb
  unfold walks_Isomorphic
  rw [bd_pos (check0 ha hN), bd_pos (check0 hb hN), bd_pos (cmpor_eq hN 0), cd_f (by simp), bd_pos (reached_eq' ha hN), bd_pos (reached_eq' hb hN)]
  rw [bd_pos (show walks_part N a (stsL (rch a 0)) = some (canM a) from by rw [← cast_ord]; exact part_eq ha (ord_closed hP) hN)]
  rw [bd_pos (show walks_part N b (stsL (rch b 0)) = some (canM b) from by rw [← cast_ord]; exact part_eq hb (ord_closed hQ) hN)]
  rw [bd_pos (msame_eq (canM_ok ha).small (canM_ok hb).small hN), sameR_ok (canM_ok ha)]
  by_cases h : canM a = canM b
  · rw [if_pos h]
    obtain ⟨_, hl, _⟩ := canM_eq_facts ha hb h
    refine (cf (by rw [decide_eq_true h]; rfl)).trans ?_
    rw [bd_pos (repeat_eq hN hr1 (by omega)), bd_pos (iso_L1 hN hP hQ hr2 hl), bd_pos clip_eq]
  · rw [if_neg h]
    exact ct (by rw [decide_eq_false h]; rfl)
end GV
end Go.Proofs.Ytncblcdhmcmkmaa
