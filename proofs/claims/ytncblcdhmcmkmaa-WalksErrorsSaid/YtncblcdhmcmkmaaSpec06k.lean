/- Chapter 06: what is refused; the law Errors. -/
import Derived.Test.YtncblcdhmcmkmaaSpec06j
namespace Go.Proofs.Ytncblcdhmcmkmaa
namespace GV
set_option linter.unusedVariables false
set_option maxRecDepth 100000

def badS (m : Mach) (s : Int) : Bool := decide (s < 0) || decide ((m.rows.length : Int) ≤ s)
theorem state_any {N : Nat} {m : Mach} (hs : Small m) (hN : 200 ≤ N) {l : List Int} (hlen : l.length ≤ 10) : walks_state N m l = some (if checkM m ≠ 0 then checkM m else if l.any (badS m) = true then 1 else 0) := by
  unfold walks_state
  rw [bd_pos (check_eq hs hN)]
  by_cases h : checkM m = 0
  · rw [cd_f (by simpa using h), if_neg (by simpa using h), bd_pos (containsI (p := badS m) (fun k hk => rfl) (by omega) (by omega))]
    cases hb : l.any (badS m)
    · rw [if_neg (by decide)]; rfl
    · rw [if_pos rfl]; rfl
  · rw [cd_t h, if_pos h]
theorem dist_any {N : Nat} {m : Mach} (hs : Small m) (hN : 200 ≤ N) (s : Int) : ∃ d, walks_Distances N m s = some (d, stateM m s) ∧ (stateM m s ≠ 0 → d = []) := by
  by_cases h : stateM m s = 0
  · obtain ⟨hm, h0, h1⟩ := stateM_0 h
    obtain ⟨k, rfl⟩ := Int.eq_ofNat_of_zero_le h0
    refine ⟨_, by rw [h]; exact dist_eq hm hN (by omega), fun hne => absurd h hne⟩
  · refine ⟨[], ?_, fun _ => rfl⟩
    have e : (if checkM m ≠ 0 then checkM m else if [s].any (badS m) = true then 1 else 0) = stateM m s := by
      unfold stateM
      by_cases hc : checkM m ≠ 0
      · rw [if_pos hc, if_pos hc]
      · rw [if_neg hc, if_neg hc]
        have : ([s].any (badS m) = true) = (s < 0 ∨ (m.rows.length : Int) ≤ s) := by simp [badS]
        simp only [this]
    unfold walks_Distances
    rw [bd_pos (state_any hs hN (l := [s]) (by simp)), e, cd_t h]
def stateM2 (m : Mach) (s t : Int) : Int := if stateM m s ≠ 0 then stateM m s else if t < 0 ∨ (m.rows.length : Int) ≤ t then 1 else 0
theorem path_any {N : Nat} {m : Mach} (hs : Small m) (hN : 200 ≤ N) (s t : Int) : ∃ w b, walks_Path N m s t = some (w, b, stateM2 m s t) ∧ (stateM2 m s t ≠ 0 → w = [] ∧ b = false) := by
  by_cases h : stateM2 m s t = 0
  · have h0 : stateM m s = 0 := by
      unfold stateM2 at h
      by_cases h1 : stateM m s ≠ 0
      · rw [if_pos h1] at h; exact h
      · omega
    have h2 : 0 ≤ t ∧ t < m.rows.length := by
      unfold stateM2 at h
      rw [if_neg (by simpa using h0)] at h
      by_cases h1 : t < 0 ∨ (m.rows.length : Int) ≤ t
      · rw [if_pos h1] at h; cases h
      · omega
    obtain ⟨hm, k0, k1⟩ := stateM_0 h0
    obtain ⟨i, rfl⟩ := Int.eq_ofNat_of_zero_le k0
    obtain ⟨j, rfl⟩ := Int.eq_ofNat_of_zero_le h2.1
    refine ⟨_, _, by rw [h]; exact path_eq hm hN (by omega) (by omega), fun hne => absurd h hne⟩
  · refine ⟨[], false, ?_, fun _ => ⟨rfl, rfl⟩⟩
    have e : (if checkM m ≠ 0 then checkM m else if [s, t].any (badS m) = true then 1 else 0) = stateM2 m s t := by
      unfold stateM2 stateM
      by_cases hc : checkM m ≠ 0
      · rw [if_pos hc, if_pos hc, if_pos hc]
      · rw [if_neg hc, if_neg hc]
        have : ([s, t].any (badS m) = true) = ((s < 0 ∨ (m.rows.length : Int) ≤ s) ∨ (t < 0 ∨ (m.rows.length : Int) ≤ t)) := by simp [badS]
        simp only [this]
        by_cases h1 : s < 0 ∨ (m.rows.length : Int) ≤ s
        · rw [if_pos (.inl h1), if_pos h1, if_pos (show (1 : Int) ≠ 0 by decide)]
        · rw [if_neg h1, if_neg (show ¬ (0 : Int) ≠ 0 by decide)]
          by_cases h2 : t < 0 ∨ (m.rows.length : Int) ≤ t
          · rw [if_pos (.inr h2), if_pos h2]
          · rw [if_neg (by rintro (h | h); exact h1 h; exact h2 h), if_neg h2]
    unfold walks_Path
    rw [bd_pos (state_any hs hN (l := [s, t]) (by simp)), e, cd_t h]
section
variable {N : Nat} {m : Mach}
theorem access_bad (hs : Small m) (hN : 200 ≤ N) (h : checkM m ≠ 0) : walks_Access N m = some ([], [], checkM m) := by
  unfold walks_Access; rw [bd_pos (check_eq hs hN), cd_t h]
theorem reach_bad (hs : Small m) (hN : 200 ≤ N) (h : checkM m ≠ 0) : walks_Reach N m = some ([], checkM m) := by
  unfold walks_Reach; rw [bd_pos (check_eq hs hN), cd_t h]
theorem trim_bad (hs : Small m) (hN : 200 ≤ N) (h : checkM m ≠ 0) : walks_Trim N m = some (⟨0, 0, []⟩, [], checkM m) := by
  unfold walks_Trim; rw [bd_pos (reach_bad hs hN h), cd_t h]
theorem canon_bad (hs : Small m) (hN : 200 ≤ N) (h : checkM m ≠ 0) : walks_Canonical N m = some (⟨0, 0, []⟩, checkM m) := by
  unfold walks_Canonical; rw [bd_pos (check_eq hs hN), cd_t h]
theorem iscanon_bad (hs : Small m) (hN : 200 ≤ N) (h : checkM m ≠ 0) : walks_IsCanonical N m = some (false, checkM m) := by
  unfold walks_IsCanonical
  rw [bd_pos (canon_bad hs hN h)]
  dsimp only
  rw [decide_eq_false h]; rfl
theorem iso_bad {a : Mach} (ha : MOk a) (hs : Small m) (hN : 200 ≤ N) (h : checkM m ≠ 0) : walks_Isomorphic N a m = some ([], false, checkM m) := by
  unfold walks_Isomorphic
  rw [bd_pos (check0 ha hN), bd_pos (check_eq hs hN), bd_pos (cmpor_eq hN _), cd_t h]
theorem iso_any {a : Mach} (ha : MOk a) (hm : MOk m) (hN : 200 ≤ N) : ∃ l b, walks_Isomorphic N a m = some (l, b, 0) := by
  rw [iso_eq ha hm hN]
  by_cases h : canM a = canM m
  · rw [if_pos h]; exact ⟨_, _, rfl⟩
  · rw [if_neg h]; exact ⟨_, _, rfl⟩
end
theorem errors_L1 {m : Mach} (hr : m.rows.length ≤ 70) : ∃ r, gauntletlaw06_WalksErrors_L1 2000 m 2000 0 = some r ∧ (r = .rt true ∨ (r = .go () ∧ Small m)) := by
  refine loop_gen (σ := Unit) (fun F k _ => gauntletlaw06_WalksErrors_L1 2000 m F (k : Int)) m.rows.length (fun k _ => ∀ j, j < k → (m.rows.getD j default).length ≤ 20) _ (fun F k _ hk hi => ?_) (fun F _ hi => ?_) 2000 0 () (Nat.zero_le _) (by omega) (fun j hj => by omega)
  · simp only [gauntletlaw06_WalksErrors_L1]
    rw [cd_t (by omega), gd_pos (okI_nat hk)]
    by_cases h : 20 < ((ix m.rows (k : Int)).length : Int)
    · left
      rw [cd_t h]
      exact ⟨_, rfl, .inl rfl⟩
    · right
      refine ⟨(), fun j hj => ?_, ?_⟩
      · by_cases e : j = k
        · subst e; rw [ix_nat] at h; omega
        · exact hi j (by omega)
      · rw [cd_f h]; exact gd_pos (in64_of (by omega))
  · simp only [gauntletlaw06_WalksErrors_L1]
    rw [cd_f (by omega)]
    exact ⟨_, rfl, .inr ⟨rfl, by omega, fun k hk => by have := hi k hk; omega⟩⟩
theorem errors_law {m : Mach} {x : MDat} {z : Int × Int} (hx : MDOk x) : gauntletlaw06_WalksErrors 2000 m x z = some true := by
  have ha := mOf_ok hx
  unfold gauntletlaw06_WalksErrors
  by_cases h70 : 70 < m.rows.length
  · exact cd_t (by omega)
  refine (cd_f (by omega)).trans ?_
  refine bd_ex (errors_L1 (by omega)) ?_
  rintro r (rfl | ⟨rfl, hs⟩)
  · rfl
  rw [on_g]
  refine (bd_pos (rcheck_eq (N := 2000) hs (by decide))).trans ?_
  obtain ⟨d, hd, hd0⟩ := dist_any (N := 2000) hs (by decide) z.1
  obtain ⟨w, b, hw, hw0⟩ := path_any (N := 2000) hs (by decide) z.1 z.2
  refine (bd_pos (x := stateM m z.1) ?_).trans ?_
  · unfold stateM
    by_cases hc : checkM m = 0
    · rw [if_neg (by simpa using hc), decide_eq_true hc]
      by_cases h1 : z.1 < 0 ∨ (m.rows.length : Int) ≤ z.1
      · rw [if_pos h1, ct (by simpa using h1)]
      · rw [if_neg h1, cf (by simp; omega), hc]
    · rw [if_pos hc, decide_eq_false hc]; rfl
  refine (bd_pos hd).trans ?_
  refine (cf ?_).trans ?_
  · by_cases h : stateM m z.1 = 0
    · rw [h]; simp
    · rw [hd0 h]; simp
  refine (bd_pos (x := stateM2 m z.1 z.2) ?_).trans ?_
  · unfold stateM2
    by_cases hc : stateM m z.1 = 0
    · rw [if_neg (by simpa using hc), decide_eq_true hc]
      by_cases h1 : z.2 < 0 ∨ (m.rows.length : Int) ≤ z.2
      · rw [if_pos h1, ct (by simpa using h1)]
      · rw [if_neg h1, cf (by simp; omega), hc]
    · rw [if_pos hc, decide_eq_false hc]; rfl
  refine (bd_pos hw).trans ?_
  refine (cf ?_).trans ?_
  · by_cases h : stateM2 m z.1 z.2 = 0
    · rw [h]; simp
    · rw [(hw0 h).1, (hw0 h).2]; simp
  by_cases hc : checkM m = 0
  · have hm := (checkM_iff m).1 hc
    obtain ⟨l, q, hi⟩ := iso_any (N := 2000) ha hm (by decide)
    rw [hc]
    refine (bd_pos (access_eq (N := 2000) hm (by decide))).trans ?_
    refine (bd_pos (reach_eq (N := 2000) hm (by decide))).trans ?_
    refine (bd_pos (trim_eq (N := 2000) hm (by decide))).trans ?_
    refine (bd_pos (canon_eq (N := 2000) hm (by decide))).trans ?_
    refine (bd_pos (iscanon_eq (N := 2000) hm (by decide))).trans ?_
    refine (bd_pos (mof_eq (N := 2000) hx (by decide))).trans ?_
    refine (bd_pos hi).trans ?_
    refine (cf rfl).trans ?_
    have no : ∀ {p : Prop}, ((true && ((decide ((0 : Int) = 0)) == false)) = true) → p := fun h => by simp at h
    refine Eq.trans (gd_pos no) ?_
    refine Eq.trans (gd_pos no) ?_
    refine Eq.trans (gd_pos no) ?_
    refine Eq.trans (gd_pos no) ?_
    refine Eq.trans (gd_pos no) ?_
    refine Eq.trans (gd_pos no) ?_
    refine (g_bd rfl lives_eq).trans ?_
    rfl
  · refine (bd_pos (access_bad (N := 2000) hs (by decide) hc)).trans ?_
    refine (bd_pos (reach_bad (N := 2000) hs (by decide) hc)).trans ?_
    refine (bd_pos (trim_bad (N := 2000) hs (by decide) hc)).trans ?_
    refine (bd_pos (canon_bad (N := 2000) hs (by decide) hc)).trans ?_
    refine (bd_pos (iscanon_bad (N := 2000) hs (by decide) hc)).trans ?_
    refine (bd_pos (mof_eq (N := 2000) hx (by decide))).trans ?_
    refine (bd_pos (iso_bad (N := 2000) ha hs (by decide) hc)).trans ?_
    have yes : ∀ {p : Prop} {n : Int}, n = 0 → (p → in64 n) := fun h _ => by subst h; exact in64_of (by omega)
    refine (cf ?_).trans ?_
    · simp
    refine Eq.trans (gd_pos (yes rfl)) ?_
    refine Eq.trans (gd_pos (yes rfl)) ?_
    refine Eq.trans (gd_pos (yes rfl)) ?_
    refine Eq.trans (gd_pos (yes rfl)) ?_
    refine Eq.trans (gd_pos (yes rfl)) ?_
    refine Eq.trans (gd_pos (yes rfl)) ?_
    refine (g_bd ?_ lives_eq).trans ?_
    · rw [decide_eq_false hc]; rfl
    · rw [decide_eq_false hc]; rfl
end GV
end Go.Proofs.Ytncblcdhmcmkmaa
