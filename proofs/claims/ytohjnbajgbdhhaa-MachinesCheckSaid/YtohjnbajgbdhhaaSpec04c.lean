/- Chapter 04: what the plain programs compute, third part: the document's functions over edges; words. -/
import Derived.Test.YtohjnbajgbdhhaaSpec04b
namespace Go.Proofs.Ytohjnbajgbdhhaa
namespace GV
set_option linter.unusedVariables false
set_option maxRecDepth 100000

theorem cntE_row {m : Mach} {k : Nat} : cntE (m.rows.getD k default) (m.rows.getD k default).length ≤ (m.rows.getD k default).length := cntE_le _ _
theorem defined_eq {N : Nat} {m : Mach} (hm : MOk m) (hN : 200 ≤ N) : gauntletref04_Defined N m = some (defd m : Int) := by
  have hr := hm.r2; have hi1 := hm.i1; have hi2 := hm.i2
  unfold gauntletref04_Defined
  refine Eq.trans (bd_pos (x := (defd m : Int)) ?_) rfl
  refine loop_eq (fun F k (s : Int) => gauntletref04_Defined_L1 N m F s (k : Int)) m.rows.length (fun k s => s = (cntR m k : Int)) _ (fun F k s hk hi => .inr ?_) (fun F s hi => ?_) N 0 0 (Nat.zero_le _) (by omega) (by simp [cntR])
  · subst hi
    have hlen : ((m.rows.getD k default).length : Int) = m.inputs := hm.row k hk
    have hle := cntR_le m hm k (by omega)
    have hL : gauntletref04_Defined_L2 N m (k : Int) N (cntR m k : Int) 0 = some (cntR m (k + 1) : Int) := by
      rw [cntR_succ m k hk]
      refine loop_eq (fun F i (s : Int) => gauntletref04_Defined_L2 N m (k : Int) F s (i : Int)) m.inputs.toNat (fun i s => s = ((cntR m k + cntE (m.rows.getD k default) i : Nat) : Int)) _ (fun F i s hi hs => .inr ?_) (fun F s hs => ?_) N 0 _ (Nat.zero_le _) (by omega) (by simp [cntE_zero])
      · subst hs
        have hi' : i < (m.rows.getD k default).length := by omega
        refine ⟨_, rfl, ?_⟩
        simp only [gauntletref04_Defined_L2]
        have hc := cntE_le (m.rows.getD k default) i
        rw [cd_t (by omega), gd_pos (okI_nat hk), gd_pos (show okI (ix m.rows (k : Int)) (i : Int) from okI_nat hi'), cntE_succ _ _ hi']
        by_cases h0 : 0 ≤ ((m.rows.getD k default).getD i default).to
        · rw [if_pos h0]
          refine Eq.trans (bd_pos (x := ((cntR m k + (cntE (m.rows.getD k default) i + 1) : Nat) : Int)) ?_) ?_
          · refine Eq.trans (cd_t h0) ?_
            rw [gd_pos (in64_of (by omega))]; rfl
          · rw [gd_pos (in64_of (by omega))]; rfl
        · rw [if_neg h0]
          refine Eq.trans (bd_pos (x := ((cntR m k + (cntE (m.rows.getD k default) i + 0) : Nat) : Int)) ?_) ?_
          · exact cd_f h0
          · rw [gd_pos (in64_of (by omega))]; rfl
      · subst hs
        simp only [gauntletref04_Defined_L2]
        rw [cd_f (by omega), show m.inputs.toNat = (m.rows.getD k default).length by omega]
    refine ⟨_, rfl, ?_⟩
    simp only [gauntletref04_Defined_L1]
    rw [cd_t (by omega), bd_pos hL, gd_pos (in64_of (by omega))]; rfl
  · subst hi
    simp only [gauntletref04_Defined_L1]
    rw [cd_f (by omega)]; rfl
theorem rcomplete_eq {N : Nat} {m : Mach} (hm : MOk m) (hN : 200 ≤ N) : gauntletref04_Complete N m = some (complB m) := by
  unfold gauntletref04_Complete
  have := hm.mul
  rw [bd_pos (defined_eq hm hN), gd_pos (in64_of (by rw [this.2]; omega))]; rfl
theorem reached_eq {N : Nat} {m : Mach} (hm : MOk m) (hN : 200 ≤ N) {a : Nat} (ha : a < m.rows.length) : gauntletref04_Reached N m (a : Int) = some (reachL m a) := by
  have hr := hm.r2; have hi1 := hm.i1; have hi2 := hm.i2
  unfold gauntletref04_Reached
  rw [gd_pos ⟨by omega, by omega, by omega⟩, mk_nat, gd_pos (okI_nat (by simpa using ha)), up_nat]
  refine Eq.trans (bd_pos (x := reachL m a) ?_) rfl
  refine loop_eq (fun F r Y => gauntletref04_Reached_L1 N m F (r : Int) Y) m.rows.length (fun r Y => RInv m a r Y) _ (fun F r Y hk hi => .inr ?_) (fun F Y hi => ?_) N 0 _ (Nat.zero_le _) (by omega) (rinv_zero ha)
  · obtain ⟨Z, hZ, hz⟩ : ∃ Z, gauntletref04_Reached_L2 N m N 0 Y = some Z ∧ RInv m a (r + 1) Z := by
      refine loop_gen (fun F s Z => gauntletref04_Reached_L2 N m F (s : Int) Z) m.rows.length (fun s Z => RPass m a Y s 0 Z) _ (fun F s Z hs hp => .inr ?_) (fun F Z hp => ?_) N 0 Y (Nat.zero_le _) (by omega) (rp_zero hi)
      · have hlen : ((m.rows.getD s default).length : Int) = m.inputs := hm.row s hs
        obtain ⟨V, hV, hv⟩ : ∃ V, gauntletref04_Reached_L3 N m (s : Int) N 0 Z = some V ∧ RPass m a Y (s + 1) 0 V := by
          refine loop_gen (fun F i V => gauntletref04_Reached_L3 N m (s : Int) F (i : Int) V) m.inputs.toNat (fun i V => RPass m a Y s i V) _ (fun F i V hi' hq => .inr ?_) (fun F V hq => ?_) N 0 Z (Nat.zero_le _) (by omega) hp
          · have hil : i < (m.rows.getD s default).length := by omega
            have hsl : s < V.length := by rw [hq.len]; exact hs
            simp only [gauntletref04_Reached_L3]
            rw [cd_t (by omega), gd_pos (okI_nat hs), gd_pos (show okI (ix m.rows (s : Int)) (i : Int) from okI_nat hil), gd_pos (okI_nat hsl)]
            by_cases hc : V.getD s default = true ∧ 0 ≤ ((m.rows.getD s default).getD i default).to
            · refine ⟨_, rp_set hm hq hs hil hc.1 hc.2, ?_⟩
              have hlt : ((m.rows.getD s default).getD i default).to.toNat < V.length := by
                rw [hq.len]; rcases hm.edge s i hs hil with h | h <;> omega
              refine Eq.trans (bd_pos (x := V.set ((m.rows.getD s default).getD i default).to.toNat true) ?_) ?_
              · refine Eq.trans (ct (by show (V.getD s default && decide (0 ≤ ((m.rows.getD s default).getD i default).to)) = true; rw [hc.1, decide_eq_true hc.2]; rfl)) ?_
                exact gd_pos (show okI V ((m.rows.getD s default).getD i default).to from ⟨hc.2, by omega⟩)
              · rw [gd_pos (in64_of (by omega))]; rfl
            · refine ⟨V, rp_skip hq hc, ?_⟩
              refine Eq.trans (bd_pos (x := V) ?_) ?_
              · refine cf (show (V.getD s default && decide (0 ≤ ((m.rows.getD s default).getD i default).to)) = false from ?_)
                cases h1 : V.getD s default
                · rfl
                · exact decide_eq_false fun h2 => hc ⟨h1, h2⟩
              · rw [gd_pos (in64_of (by omega))]; rfl
          · simp only [gauntletref04_Reached_L3]
            rw [cd_f (by omega)]
            exact ⟨V, rfl, rp_row hq (by omega)⟩
        refine ⟨V, hv, ?_⟩
        simp only [gauntletref04_Reached_L2]
        rw [cd_t (by omega), bd_pos hV, gd_pos (in64_of (by omega))]; rfl
      · simp only [gauntletref04_Reached_L2]
        rw [cd_f (by omega)]
        exact ⟨Z, rfl, rp_end hp (Nat.le_refl _) hi⟩
    refine ⟨Z, hz, ?_⟩
    simp only [gauntletref04_Reached_L1]
    rw [cd_t (by omega), bd_pos hZ, gd_pos (in64_of (by omega))]; rfl
  · simp only [gauntletref04_Reached_L1]
    rw [cd_f (by omega), rinv_end hm ha hi (Nat.le_refl _)]
theorem rconn_eq {N : Nat} {m : Mach} (hm : MOk m) (hN : 200 ≤ N) : gauntletref04_Connected N m = some (connB m) := by
  have hr := hm.r2; have hr1 := hm.r1
  unfold gauntletref04_Connected
  rw [bd_pos (show gauntletref04_Reached N m 0 = _ from reached_eq (a := 0) hm hN (by omega))]
  have hl := reachL_length m 0
  have hL : gauntletref04_Connected_L1 N (reachL m 0) N 0 = some (if connB m = true then Ex.go () else Ex.rt false) := by
    refine loop_eq (σ := Unit) (fun F k _ => gauntletref04_Connected_L1 N (reachL m 0) F (k : Int)) m.rows.length (fun k _ => ∀ j, j < k → (reachL m 0).getD j default = true) _ (fun F k _ hk hi => ?_) (fun F _ hi => ?_) N 0 () (Nat.zero_le _) (by omega) (fun j hj => by omega)
    · simp only [gauntletref04_Connected_L1]
      rw [cd_t (by omega), gd_pos (okI_nat (by omega)), ix_nat]
      cases hb : (reachL m 0).getD k default
      · left
        refine Eq.trans (ct rfl) ?_
        rw [connB_f hk hb]; rfl
      · right
        refine ⟨(), all_upto hi hb, Eq.trans (cf rfl) ?_⟩
        rw [gd_pos (in64_of (by omega))]; rfl
    · simp only [gauntletref04_Connected_L1]
      rw [cd_f (by omega), connB_t hi]; rfl
  rw [bd_pos hL]
  cases connB m <;> rfl
/-! ### Words -/
theorem state_eq {N : Nat} {m : Mach} (hs : Small m) (hN : 200 ≤ N) (s : Int) : machines_state N m s = some (stateM m s) := by
  unfold machines_state stateM
  rw [bd_pos (check_eq hs hN)]
  by_cases h : checkM m ≠ 0
  · rw [cd_t h, if_pos h]
  · rw [cd_f h, if_neg h]
    by_cases h1 : s < 0 ∨ (m.rows.length : Int) ≤ s
    · rw [ct (by simpa using h1), if_pos h1]
    · rw [cf (by simpa using h1), if_neg h1]
theorem indexI {N : Nat} {s : List Int} {f : Int → Option Bool} {p : Int → Bool} (hf : ∀ k, k < s.length → f (s.getD k default) = some (p (s.getD k default))) (hN : s.length < N) (hl : s.length ≤ 4611686018427387904) :
    slices_IndexFunc_int N s f = some (idxF p s) := by
  have h : slices_IndexFunc_int_L1 N s f N 0 = some (if s.any p = true then Ex.rt (idxF p s) else Ex.go ()) := by
    refine loop_eq (σ := Unit) (fun F k _ => slices_IndexFunc_int_L1 N s f F (k : Int)) s.length (fun k _ => (s.take k).any p = false) _ (fun F k _ hk hi => ?_) (fun F _ hi => ?_) N 0 () (Nat.zero_le _) (by omega) (by simp)
    · simp only [slices_IndexFunc_int_L1]
      rw [cd_t (by omega), gd_pos (okI_nat hk), ix_nat, bd_pos (hf k hk)]
      cases hp : p (s.getD k default)
      · right
        refine ⟨(), by rw [take_any p s k hk, hi, hp]; rfl, ?_⟩
        rw [cf rfl, gd_pos (in64_of (by omega))]; rfl
      · left
        rw [ct rfl, if_pos (List.any_eq_true.2 ⟨_, getD_mem hk, hp⟩), idxF_found p s k hk hi hp]
    · simp only [slices_IndexFunc_int_L1]
      rw [cd_f (by omega), if_neg (by rw [List.take_length] at hi; rw [hi]; decide)]
  unfold slices_IndexFunc_int
  rw [bd_pos h]
  by_cases ha : s.any p = true
  · rw [if_pos ha]; rfl
  · rw [if_neg ha, idxF_none p s (by simpa using ha)]; rfl
theorem containsI {N : Nat} {s : List Int} {f : Int → Option Bool} {p : Int → Bool} (hf : ∀ k, k < s.length → f (s.getD k default) = some (p (s.getD k default))) (hN : s.length < N) (hl : s.length ≤ 4611686018427387904) :
    slices_ContainsFunc_int N s f = some (s.any p) := by
  unfold slices_ContainsFunc_int
  rw [bd_pos (indexI hf hN hl), idxF_ge]
theorem wcheck_eq {N : Nat} {w : List Int} {n : Int} (hN : w.length < N) (hl : w.length ≤ 4611686018427387904) : words_Check N w n = some (checkW w n) := by
  unfold words_Check
  by_cases h : 16 < n ∨ 256 < w.length
  · rw [ct (by simp; omega), checkW_3 h]
  · rw [cf (by simp; omega)]
    rw [bd_gop (fun _ => containsI (p := symBad n) (fun j hj => rfl) hN hl)]
    by_cases h1 : n < 1 ∨ w.any (symBad n) = true
    · rw [checkW_1 h h1]
      refine ct ?_
      by_cases h2 : n < 1
      · rw [decide_eq_true h2]; rfl
      · rw [decide_eq_false h2]; exact h1.resolve_left h2
    · rw [checkW_z h h1]
      refine cf ?_
      rw [decide_eq_false (fun h2 => h1 (.inl h2))]
      exact Bool.eq_false_iff.2 fun h2 => h1 (.inr h2)
theorem run_eq {N : Nat} {m : Mach} (hm : MOk m) {s : Int} {w : List Int} (hs : SOk m s) (hw : WOk m.inputs w) (hN : w.length < N) (hl : w.length ≤ 1000000) : machines_run N m s w = some (runL m s w, aftL m s w) := by
  unfold machines_run
  rw [gd_pos ⟨by omega, by omega, by omega⟩, mk_nat]
  refine Eq.trans (bd_pos (x := (aftL m s w, runL m s w)) ?_) rfl
  refine loop_eq (σ := Int × List Int) (fun F k x => machines_run_L1 N m w F x.1 (k : Int) x.2) w.length (fun k x => x.1 = aftL m s (w.take k) ∧ x.2 = runL m s (w.take k) ++ List.replicate (w.length - k) (0 : Int)) _ (fun F k x hk hi => .inr ?_) (fun F x hi => ?_) N 0 (s, List.replicate w.length 0) (Nat.zero_le _) (by omega) (by simp [aftL, runL])
  · obtain ⟨t, X⟩ := x
    obtain ⟨rfl, rfl⟩ := hi
    have hst := aftL_ok m hm s (w.take k) hs (wok_take hw k)
    have hwk := hw k hk
    refine ⟨(aftL m s (w.take (k + 1)), runL m s (w.take (k + 1)) ++ List.replicate (w.length - (k + 1)) (0 : Int)), ⟨rfl, rfl⟩, ?_⟩
    simp only [machines_run_L1]
    rw [cd_t (by omega), gd_pos (okI_nat hk), show machines_none N = some ⟨-1, -1⟩ from rfl, bd_s]
    have hn : (bif decide (aftL m s (w.take k) ≠ -1) then gd (okI m.rows (aftL m s (w.take k))) <| gd (okI (ix m.rows (aftL m s (w.take k))) (ix w (k : Int))) <| some ((ix (ix m.rows (aftL m s (w.take k))) (ix w (k : Int))).to, (ix (ix m.rows (aftL m s (w.take k))) (ix w (k : Int))).out) else some ((-1 : Int), (-1 : Int))) =
        some ((nextE m (aftL m s (w.take k)) (w.getD k default)).to, (nextE m (aftL m s (w.take k)) (w.getD k default)).out) := by
      rcases hst with h | h
      · rw [h]; rfl
      · have hrow := hm.row (aftL m s (w.take k)).toNat (by omega)
        rw [cd_t (by omega), gd_pos h, gd_pos (show okI (ix m.rows (aftL m s (w.take k))) (ix w (k : Int)) from ⟨hwk.1, show w.getD k default < ((m.rows.getD (aftL m s (w.take k)).toNat default).length : Int) from by rw [hrow]; exact hwk.2⟩)]
        unfold nextE
        rw [if_neg (by omega)]; rfl
    refine Eq.trans (bd_pos hn) ?_
    have hlr := runL_length m s (w.take k)
    rw [List.length_take] at hlr
    rw [gd_pos (okI_nat (by rw [List.length_append, List.length_replicate, hlr]; omega)), gd_pos (in64_of (by omega)), up_nat, set_next _ _ _ _ (by omega) hk, ← aftL_take m s w k hk, ← runL_take m s w k hk]; rfl
  · obtain ⟨t, X⟩ := x
    obtain ⟨rfl, rfl⟩ := hi
    simp only [machines_run_L1]
    rw [cd_f (by omega), List.take_length, Nat.sub_self, List.replicate_zero, List.append_nil]
theorem Run_eq {N : Nat} {m : Mach} (hs : Small m) {s : Int} {w : List Int} (hN : 400 ≤ N) (hl : w.length < N) (hl' : w.length ≤ 1000000) : machines_Run N m s w = some (runR m s w, runC m s w) := by
  unfold machines_Run runR runC
  rw [bd_pos (state_eq hs (by omega) s)]
  by_cases h : stateM m s ≠ 0
  · rw [cd_t h, if_pos h, if_pos h]
  · rw [cd_f h, if_neg h, if_neg h, bd_pos (wcheck_eq hl (by omega))]
    by_cases h1 : checkW w m.inputs ≠ 0
    · rw [cd_t h1, if_pos h1]
    · have h0 := stateM_0 (m := m) (s := s) (by simpa using h)
      have hw := checkW_0 (w := w) (n := m.inputs) (by simpa using h1)
      rw [cd_f h1, if_neg h1, bd_pos (run_eq h0.1 (.inr h0.2) hw.1 hl hl'), show checkW w m.inputs = 0 by simpa using h1]
theorem After_eq {N : Nat} {m : Mach} (hs : Small m) {s : Int} {w : List Int} (hN : 400 ≤ N) (hl : w.length < N) (hl' : w.length ≤ 1000000) : machines_After N m s w = some (aftR m s w, runC m s w) := by
  unfold machines_After aftR runC
  rw [bd_pos (state_eq hs (by omega) s)]
  by_cases h : stateM m s ≠ 0
  · rw [cd_t h, if_pos h, if_pos h]
  · rw [cd_f h, if_neg h, if_neg h, bd_pos (wcheck_eq hl (by omega))]
    by_cases h1 : checkW w m.inputs ≠ 0
    · rw [cd_t h1, if_pos h1]
    · have h0 := stateM_0 (m := m) (s := s) (by simpa using h)
      have hw := checkW_0 (w := w) (n := m.inputs) (by simpa using h1)
      rw [cd_f h1, if_neg h1, bd_pos (run_eq h0.1 (.inr h0.2) hw.1 hl hl'), show checkW w m.inputs = 0 by simpa using h1]
theorem Step_eq {N : Nat} {m : Mach} (hs : Small m) {s i : Int} (hN : 200 ≤ N) : machines_Step N m s i = some (stepE m s i, stepC m s i) := by
  unfold machines_Step stepE stepC
  rw [bd_pos (state_eq hs hN s)]
  by_cases h : stateM m s ≠ 0
  · rw [cd_t h, if_pos h, if_pos h]
  · rw [cd_f h, if_neg h, if_neg h]
    by_cases h1 : i < 0 ∨ m.inputs ≤ i
    · rw [ct (by simpa using h1), if_pos h1, if_pos h1]
    · have h0 := stateM_0 (m := m) (s := s) (by simpa using h)
      have hrow := h0.1.row s.toNat (by omega)
      rw [cf (by simpa using h1), if_neg h1, if_neg h1, gd_pos h0.2, gd_pos (show okI (ix m.rows s) i from ⟨by omega, by rw [ix_int, hrow]; omega⟩)]; rfl
end GV
end Go.Proofs.Ytohjnbajgbdhhaa
