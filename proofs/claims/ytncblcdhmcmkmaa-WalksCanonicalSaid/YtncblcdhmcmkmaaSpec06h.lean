/- Chapter 06: other numberings; the law Canonical. -/
import Derived.Test.YtncblcdhmcmkmaaSpec06g
namespace Go.Proofs.Ytncblcdhmcmkmaa
namespace GV
set_option linter.unusedVariables false
set_option maxRecDepth 100000

/-- A numbering of n states that leaves the initial one. -/
structure Num (n : Nat) (L : List Nat) : Prop where
  len : L.length = n
  rng : ∀ k, k < n → L.getD k 0 < n
  inj : ∀ i j, i < n → j < n → L.getD i 0 = L.getD j 0 → i = j
  sur : ∀ s, s < n → ∃ k, k < n ∧ L.getD k 0 = s
  zero : L.getD 0 0 = 0
theorem num_range (n : Nat) (hn : 1 ≤ n) : Num n (List.range n) := by
  have g : ∀ k, k < n → (List.range n).getD k 0 = k := fun k hk => by simp [List.getD_eq_getElem?_getD, hk]
  exact ⟨by simp, fun k hk => by rw [g k hk]; exact hk, fun i j hi hj h => by rw [g i hi, g j hj] at h; exact h, fun s hs => ⟨s, hs, g s hs⟩, g 0 (by omega)⟩
def swapN (L : List Nat) (a b : Nat) : List Nat := (L.set a (L.getD b 0)).set b (L.getD a 0)
def tr (a b k : Nat) : Nat := if k = b then a else if k = a then b else k
theorem swapN_get {n : Nat} {L : List Nat} (hl : L.length = n) {a b k : Nat} (ha : a < n) (hb : b < n) (hk : k < n) : (swapN L a b).getD k 0 = L.getD (tr a b k) 0 := by
  unfold swapN tr
  rw [List.getD_eq_getElem?_getD, List.getElem?_set]
  by_cases h1 : b = k
  · subst h1
    rw [if_pos rfl, if_pos (by rw [List.length_set]; omega), if_pos rfl]; rfl
  · rw [if_neg h1, if_neg (fun e => h1 e.symm), List.getElem?_set]
    by_cases h2 : a = k
    · subst h2
      rw [if_pos rfl, if_pos (by omega), if_pos rfl]; rfl
    · rw [if_neg h2, if_neg (fun e => h2 e.symm), ← List.getD_eq_getElem?_getD]
theorem num_swap {n : Nat} {L : List Nat} (h : Num n L) {a b : Nat} (ha : 1 ≤ a ∧ a < n) (hb : 1 ≤ b ∧ b < n) : Num n (swapN L a b) := by
  have g : ∀ k, k < n → (swapN L a b).getD k 0 = L.getD (tr a b k) 0 := fun k hk => swapN_get h.len ha.2 hb.2 hk
  have ht : ∀ k, k < n → tr a b k < n := fun k hk => by unfold tr; split; omega; split; omega; exact hk
  have hi : ∀ k, tr a b (tr a b k) = k := fun k => by
    unfold tr
    by_cases h1 : k = b
    · subst h1; rw [if_pos rfl]; by_cases h2 : a = k
      · subst h2; simp
      · rw [if_neg h2, if_pos rfl]
    · rw [if_neg h1]; by_cases h2 : k = a
      · subst h2; rw [if_pos rfl, if_pos rfl]
      · rw [if_neg h2, if_neg h1, if_neg h2]
  refine ⟨by unfold swapN; rw [List.length_set, List.length_set]; exact h.len, fun k hk => by rw [g k hk]; exact h.rng _ (ht k hk), fun i j hi' hj e => ?_, fun s hs => ?_, ?_⟩
  · rw [g i hi', g j hj] at e
    have := h.inj _ _ (ht i hi') (ht j hj) e
    rw [← hi i, this, hi]
  · obtain ⟨k, hk, e⟩ := h.sur s hs
    exact ⟨tr a b k, ht k hk, by rw [g _ (ht k hk), hi, e]⟩
  · rw [g 0 (by omega)]
    have : tr a b 0 = 0 := by unfold tr; rw [if_neg (by omega), if_neg (by omega)]
    rw [this, h.zero]
theorem castL_set (L : List Nat) (a v : Nat) : (castL L).set a (v : Int) = castL (L.set a v) := by
  unfold castL; rw [List.map_set]
theorem up_swap {n : Nat} {L : List Nat} (hl : L.length = n) {a b : Nat} (ha : a < n) (hb : b < n) : up (up (castL L) (a : Int) (ix (castL L) (b : Int))) (b : Int) (ix (castL L) (a : Int)) = castL (swapN L a b) := by
  rw [castL_get (by omega), castL_get (by omega), up_nat, up_nat, castL_set, castL_set]; rfl
section
variable {m : Mach} {L : List Nat}
theorem num_mem (h : Num m.rows.length L) {s : Nat} (hs : s < m.rows.length) : s ∈ L := by
  obtain ⟨k, hk, rfl⟩ := h.sur s hs
  have := h.len
  simp [List.getD_eq_getElem?_getD, show k < L.length by omega]
theorem num_closed (hm : MOk m) (h : Num m.rows.length L) : ClosedP m L := by
  have hl := h.len
  have hr1 := hm.r1
  refine ⟨fun s hs => ?_, ?_, fun s hs i hi hne => ?_, fun e => by rw [e] at hl; simp at hl; omega⟩
  · obtain ⟨k, hk, rfl⟩ := List.mem_iff_getElem.1 hs
    have := h.rng k (by omega)
    simpa [List.getD_eq_getElem?_getD, hk] using this
  · rw [List.nodup_iff_pairwise_ne, List.pairwise_iff_getElem]
    intro i j hi hj hij e
    have := h.inj i j (by omega) (by omega) (by simpa [List.getD_eq_getElem?_getD, hi, hj] using e)
    omega
  · obtain ⟨k, hk, rfl⟩ := List.mem_iff_getElem.1 hs
    have h1 := h.rng k (by omega)
    have h2 : L[k] < m.rows.length := by simpa [List.getD_eq_getElem?_getD, hk] using h1
    have := (ed_ok hm h2 hi).resolve_left hne
    exact num_mem h (by omega)
theorem num_canM (hm : MOk m) (h : Num m.rows.length L) : canM (partM m L) = canM m := by
  have hl := h.len
  have hr1 := hm.r1
  have hc := num_closed hm h
  have hz := idx_getD hc.nd (show 0 < L.length by omega)
  rw [h.zero] at hz
  refine canM_part hm hc (num_mem h (by omega)) hz fun s hs => ?_
  obtain ⟨j, hj, rfl⟩ := ord_mem.1 hs
  exact num_mem h ((rch0 hm).rng j hj)
end
theorem castL_range (k : Nat) : castL (List.range (k + 1)) = castL (List.range k) ++ [(k : Int)] := by
  unfold castL; rw [List.range_succ, List.map_append]; rfl
theorem canonical_L1 {m : Mach} (hr : m.rows.length ≤ 64) : gauntletlaw06_WalksCanonical_L1 2000 m 2000 [] 0 = some (castL (List.range m.rows.length)) := by
  refine loop_eq (σ := List Int) (fun F k st => gauntletlaw06_WalksCanonical_L1 2000 m F st (k : Int)) m.rows.length (fun k st => st = castL (List.range k)) _ (fun F k st hk hst => ?_) (fun F st hst => ?_) 2000 0 _ (Nat.zero_le _) (by omega) rfl
  · subst hst
    right
    refine ⟨_, rfl, ?_⟩
    simp only [gauntletlaw06_WalksCanonical_L1]
    have hl : (castL (List.range k)).length = k := by rw [castL_len, List.length_range]
    rw [cd_t (by omega), gd_pos ⟨by simp only [List.length_singleton]; omega, by simp only [List.length_singleton]; omega⟩, gd_pos (in64_of (by omega)), castL_range]; rfl
  · subst hst
    simp only [gauntletlaw06_WalksCanonical_L1]
    rw [cd_f (by omega)]
theorem canonical_L2 {m : Mach} (hr : m.rows.length ≤ 64) {swaps : List Int} (hs : ∀ k, k < swaps.length → 0 ≤ swaps.getD k default ∧ swaps.getD k default ≤ 255) {L : List Nat} (hL : Num m.rows.length L) :
    ∃ r, gauntletlaw06_WalksCanonical_L2 2000 swaps m 2000 0 (castL L) = some r ∧ ∃ L', r = castL L' ∧ Num m.rows.length L' := by
  have := loop_gen (σ := List Int) (fun F k st => gauntletlaw06_WalksCanonical_L2 2000 swaps m F (2 * (k : Int)) st) 10 (fun k st => ∃ L', st = castL L' ∧ Num m.rows.length L') (fun r => ∃ L', r = castL L' ∧ Num m.rows.length L') (fun F k st hk hi => ?_) (fun F st hi => ?_) 2000 0 (castL L) (Nat.zero_le _) (by omega) ⟨L, rfl, hL⟩
  · exact this
  · obtain ⟨L', rfl, hL'⟩ := hi
    simp only [gauntletlaw06_WalksCanonical_L2]
    rw [gd_pos (in64_of (by omega))]
    by_cases hc : 2 * k + 1 < swaps.length ∧ 1 < m.rows.length
    · obtain ⟨h1, h2⟩ := hc
      right
      have e : (((decide (2 * (k : Int) + 1 < (swaps.length : Int))) && (decide (2 * (k : Int) < 20))) && (decide ((1 : Int) < (m.rows.length : Int)))) = true := by
        rw [decide_eq_true (by omega), decide_eq_true (by omega), decide_eq_true (by omega)]; rfl
      have ea : ix swaps (2 * (k : Int)) = swaps.getD (2 * k) default := by rw [show 2 * (k : Int) = ((2 * k : Nat) : Int) by omega]; rfl
      have eb : ix swaps (2 * (k : Int) + 1) = swaps.getD (2 * k + 1) default := by rw [show 2 * (k : Int) + 1 = ((2 * k + 1 : Nat) : Int) by omega]; rfl
      have ha := hs (2 * k) (by omega)
      have hb := hs (2 * k + 1) (by omega)
      rw [ct e, ea, eb]
      generalize swaps.getD (2 * k) default = u at *
      generalize swaps.getD (2 * k + 1) default = v at *
      have hu1 := Int.emod_nonneg u (show (m.rows.length : Int) - 1 ≠ 0 by omega)
      have hu2 := Int.emod_lt_of_pos u (show (0 : Int) < (m.rows.length : Int) - 1 by omega)
      have hv1 := Int.emod_nonneg v (show (m.rows.length : Int) - 1 ≠ 0 by omega)
      have hv2 := Int.emod_lt_of_pos v (show (0 : Int) < (m.rows.length : Int) - 1 by omega)
      have hin1 : in64 ((m.rows.length : Int) - 1) := in64_of (by omega)
      have hoR : ∀ {z : Int}, 0 ≤ z → okR z ((m.rows.length : Int) - 1) := fun h => ⟨h, by omega⟩
      have hsu : okI swaps (2 * (k : Int)) := ⟨by omega, by omega⟩
      have hsv : okI swaps (2 * (k : Int) + 1) := ⟨by omega, by omega⟩
      rw [gd_pos hsu, gd_pos (in64_of (by omega)), gd_pos hin1, gd_pos (hoR ha.1)]
      have hwu : in64 (1 + u % ((m.rows.length : Int) - 1)) := in64_of (by omega)
      have hwv : in64 (1 + v % ((m.rows.length : Int) - 1)) := in64_of (by omega)
      rw [gd_pos hwu, gd_pos (in64_of (by omega)), gd_pos hsv, gd_pos (in64_of (by omega)), gd_pos hin1, gd_pos (hoR hb.1), gd_pos hwv]
      obtain ⟨a, hae⟩ := Int.eq_ofNat_of_zero_le (show 0 ≤ 1 + u % ((m.rows.length : Int) - 1) by omega)
      obtain ⟨b, hbe⟩ := Int.eq_ofNat_of_zero_le (show 0 ≤ 1 + v % ((m.rows.length : Int) - 1) by omega)
      have ha1 : 1 ≤ a ∧ a < m.rows.length := by omega
      have hb1 : 1 ≤ b ∧ b < m.rows.length := by omega
      rw [hae, hbe]
      have hl := hL'.len
      have oka : okI (castL L') (a : Int) := okI_nat (by rw [castL_len]; omega)
      have okb : okI (castL L') (b : Int) := okI_nat (by rw [castL_len]; omega)
      refine ⟨castL (swapN L' a b), ⟨_, rfl, num_swap hL' ha1 hb1⟩, ?_⟩
      rw [gd_pos okb, gd_pos oka, gd_pos oka, gd_pos okb, gd_pos (in64_of (by omega)), up_swap hl ha1.2 hb1.2]
      rw [show 2 * (k : Int) + 2 = 2 * ((k + 1 : Nat) : Int) by omega]
    · left
      have e : (((decide (2 * (k : Int) + 1 < (swaps.length : Int))) && (decide (2 * (k : Int) < 20))) && (decide ((1 : Int) < (m.rows.length : Int)))) = false := by
        by_cases h1 : 2 * k + 1 < swaps.length
        · rw [decide_eq_false (show ¬ (1 : Int) < (m.rows.length : Int) by omega), Bool.and_false]
        · rw [decide_eq_false (show ¬ 2 * (k : Int) + 1 < (swaps.length : Int) by omega)]; rfl
      rw [cf e]
      exact ⟨_, rfl, L', rfl, hL'⟩
  · obtain ⟨L', rfl, hL'⟩ := hi
    simp only [gauntletlaw06_WalksCanonical_L2]
    have e : (((decide (2 * ((10 : Nat) : Int) + 1 < (swaps.length : Int))) && (decide (2 * ((10 : Nat) : Int) < 20))) && (decide ((1 : Int) < (m.rows.length : Int)))) = false := by
      rw [decide_eq_false (show ¬ 2 * ((10 : Nat) : Int) < 20 by omega), Bool.and_false, Bool.false_and]
    rw [gd_pos (in64_of (by omega)), cf e]
    exact ⟨_, rfl, L', rfl, hL'⟩
theorem g_bd {α β : Type} {b : Bool} {e : Option α} {v : α} {k : Option α → Option β} (hb : b = true) (he : e = some v) : bd (gop b e) k = k (some v) := by
  rw [bd_gop (fun _ => he), hb]; rfl
theorem same_refl {l : List Int} (h : l.length < 2000) : gauntletref01_Same 2000 l l = some true := by rw [isame_eq (N := 2000) h (by omega)]; simp
theorem canonical_law {x : MDat} {y : WDat} {swaps : List Int} (hx : MDOk x) (hy : WDOk y) (hs : ∀ k, k < swaps.length → 0 ≤ swaps.getD k default ∧ swaps.getD k default ≤ 255) : gauntletlaw06_WalksCanonical 2000 x y swaps = some true := by
  have hm := mOf_ok hx
  obtain ⟨h6, h3⟩ := mOf_6 hx
  have hw := wOf_ok (x := y) (n := (mOf x).inputs) hm.i1
  have hr1 := hm.r1
  have hr2 := hm.r2
  unfold gauntletlaw06_WalksCanonical
  rw [bd_pos (mof_eq hx (by decide)), bd_pos (wof_eq hy hm.i1 (by decide))]
  simp only [mach_eta]
  generalize wOf y (mOf x).inputs = w at *
  generalize mOf x = m at *
  obtain ⟨hw1, hw2⟩ := hw
  have hcm := canM_ok hm
  have hcc := canM_canM hm
  have hcr := hcm.r1
  rw [bd_pos (canon_eq (N := 2000) hm (by decide)), bd_pos (rcanon_eq (N := 2000) hm (by decide) h6 h3)]
  have e2 : gauntletref04_Run 2000 (canM m) 0 w = some (runL m 0 w) := by
    rw [rrun_eq (N := 2000) hcm (.inr ⟨by omega, by omega⟩) hw1 (by omega) (by omega), canM_run hm hw1]
  have e3 : gauntletref04_Run 2000 m 0 w = some (runL m 0 w) := rrun_eq (N := 2000) hm (.inr ⟨by omega, by omega⟩) hw1 (by omega) (by omega)
  have e4 : gauntletref01_Same 2000 (runL m 0 w) (runL m 0 w) = some true := same_refl (by rw [runL_length]; omega)
  have e5 := canon_eq (N := 2000) hcm (by decide)
  have e6 := iscanon_eq (N := 2000) hm (by decide)
  have e7 := iscanon_eq (N := 2000) hcm (by decide)
  have e8 := rsame_eq (N := 2000) (b := canM m) hm.small (by decide)
  have e9 := machine_eq (N := 2000) hcm.small (by decide)
  obtain ⟨r, hr, L, rfl, hL⟩ := canonical_L2 hr2 hs (num_range m.rows.length hr1)
  have hoth := num_canM hm hL
  have hoc := num_closed hm hL
  have e10 := rpart_eq (N := 2000) hm hoc (by decide)
  have e11 := canon_eq (N := 2000) (partM_ok hm hoc) (by decide)
  have e12 := canonical_L1 hr2
  rw [hcc] at e5 e7
  rw [hoth] at e11
  generalize canM m = c at *
  refine (bd_pos e9).trans ?_
  refine (g_bd rfl e2).trans ?_
  refine (g_bd rfl e3).trans ?_
  refine (g_bd rfl e4).trans ?_
  refine (cf rfl).trans ?_
  refine (bd_pos e5).trans ?_
  refine (bd_pos e6).trans ?_
  refine (bd_pos e7).trans ?_
  refine (bd_pos e9).trans ?_
  refine (g_bd rfl e8).trans ?_
  refine (cf ?_).trans ?_
  · have : decide (c = m) = decide (m = c) := by rw [decide_eq_decide]; exact eq_comm
    rw [this, decide_eq_true (show c = c from rfl)]
    simp
  refine (bd_pos e12).trans ?_
  refine (bd_pos hr).trans ?_
  refine (bd_pos e10).trans ?_
  refine (bd_pos e11).trans ?_
  refine (bd_pos e9).trans ?_
  exact (g_bd rfl lives_eq).trans rfl
end GV
end Go.Proofs.Ytncblcdhmcmkmaa
