/- Chapter 04: the laws of the plain programs, third part: changing an edge; what any machine is told. -/
import Derived.Test.YtohjnbajgbdhhaaLaw04c
namespace Go.Proofs.Ytohjnbajgbdhhaa
namespace GV
set_option linter.unusedVariables false
set_option maxRecDepth 100000

def setM (m : Mach) (s i : Int) (x : Edge) : Mach := ⟨m.inputs, m.outputs, m.rows.set s.toNat ((m.rows.getD s.toNat default).set i.toNat x)⟩
def withC (m : Mach) (s i : Int) (x : Edge) : Int := if stateM m s ≠ 0 then stateM m s else if (i < 0 ∨ m.inputs ≤ i) ∨ fitsB m x = false then 1 else 0
def withR (m : Mach) (s i : Int) (x : Edge) : Mach := if withC m s i x ≠ 0 then ⟨0, 0, []⟩ else setM m s i x
theorem clone_eq {N : Nat} {r : List Edge} (h : r.length ≤ 100) : slices_Clone_api_Edge_o N r = some r := by
  unfold slices_Clone_api_Edge_o
  rw [gd_pos ⟨by simp; omega, by simp; omega⟩]; rfl
theorem clip_eq {N : Nat} {r : List Edge} : slices_Clip_api_Edge_o N r = some r := by
  unfold slices_Clip_api_Edge_o
  rw [gd_pos (okS_all _), cut_all]
theorem set_fill {X : List (List Edge)} {k : Nat} (hk : k < X.length) : (X.take k ++ List.replicate (X.length - k) ([] : List Edge)).set k (X.getD k default) = X.take (k + 1) ++ List.replicate (X.length - (k + 1)) [] := by
  rw [List.set_append_right _ _ (by rw [List.length_take]; omega), List.length_take, Nat.min_eq_left (by omega), Nat.sub_self, show X.length - k = (X.length - (k + 1)) + 1 by omega, List.replicate_succ, List.set_cons_zero, List.take_succ_eq_append_getElem hk, List.append_assoc]
  simp [List.getD_eq_getElem?_getD, hk]
theorem withL_eq {N : Nat} {m : Mach} (hs : Small m) (hN : 200 ≤ N) : machines_With_L1 N m N 0 (List.replicate m.rows.length []) = some m.rows := by
  have hr := hs.r
  refine loop_eq (fun F k acc => machines_With_L1 N m F (k : Int) acc) m.rows.length (fun k acc => acc = m.rows.take k ++ List.replicate (m.rows.length - k) []) _ (fun F k acc hk hacc => .inr ?_) (fun F acc hacc => ?_) N 0 _ (Nat.zero_le _) (by omega) (by simp)
  · subst hacc
    refine ⟨_, rfl, ?_⟩
    have hc := hs.c k hk
    simp only [machines_With_L1]
    rw [cd_t (by omega), gd_pos (okI_nat hk)]
    refine Eq.trans (bd_pos (clone_eq (show (m.rows.getD k default).length ≤ 100 from hc))) ?_
    rw [bd_pos clip_eq, gd_pos (okI_nat (by rw [List.length_append, List.length_take, List.length_replicate]; omega)), gd_pos (in64_of (by omega)), up_nat, ix_nat, set_fill hk]; rfl
  · subst hacc
    simp only [machines_With_L1]
    rw [cd_f (by omega), List.take_length, Nat.sub_self, List.replicate_zero, List.append_nil]
theorem withLo_eq {N : Nat} {m : Mach} (hs : Small m) (hN : 200 ≤ N) : machines_With_o_L1 N m N 0 (List.replicate m.rows.length []) = some m.rows := by
  have hr := hs.r
  refine loop_eq (fun F k acc => machines_With_o_L1 N m F (k : Int) acc) m.rows.length (fun k acc => acc = m.rows.take k ++ List.replicate (m.rows.length - k) []) _ (fun F k acc hk hacc => .inr ?_) (fun F acc hacc => ?_) N 0 _ (Nat.zero_le _) (by omega) (by simp)
  · subst hacc
    refine ⟨_, rfl, ?_⟩
    have hc := hs.c k hk
    simp only [machines_With_o_L1]
    rw [cd_t (by omega), gd_pos (okI_nat hk)]
    refine Eq.trans (bd_pos (clone_eq (show (m.rows.getD k default).length ≤ 100 from hc))) ?_
    rw [bd_pos clip_eq, gd_pos (okI_nat (by rw [List.length_append, List.length_take, List.length_replicate]; omega)), gd_pos (in64_of (by omega)), up_nat, ix_nat, set_fill hk]; rfl
  · subst hacc
    simp only [machines_With_o_L1]
    rw [cd_f (by omega), List.take_length, Nat.sub_self, List.replicate_zero, List.append_nil]
theorem With_eq {N : Nat} {m : Mach} (hs : Small m) {s i : Int} {x : Edge} (hN : 200 ≤ N) : machines_With N m s i x = some (withR m s i x, withC m s i x) := by
  have hr := hs.r
  unfold machines_With withR withC
  rw [bd_pos (state_eq hs hN s)]
  by_cases h : stateM m s ≠ 0
  · rw [cd_t h, if_pos h, if_pos h]
  · rw [cd_f h, if_neg h, bd_gop (fun _ => fits_eq N m x)]
    have h0 := stateM_0 (m := m) (s := s) (by simpa using h)
    by_cases h1 : i < 0 ∨ m.inputs ≤ i
    · have hw : (if (i < 0 ∨ m.inputs ≤ i) ∨ fitsB m x = false then (1 : Int) else 0) = 1 := if_pos (.inl h1)
      rw [hw, if_pos (by decide), ct]
      rcases h1 with h1 | h1
      · rw [decide_eq_true h1]; rfl
      · rw [decide_eq_true h1]; simp
    · have hd : (decide (i < 0) || decide (m.inputs ≤ i)) = false := by simpa using h1
      rw [hd]
      cases hf : fitsB m x
      · have hw : (if (i < 0 ∨ m.inputs ≤ i) ∨ (false = false) then (1 : Int) else 0) = 1 := if_pos (.inr rfl)
        rw [hw, if_pos (by decide)]; rfl
      · have hrow := h0.1.row s.toNat (by omega)
        have hw : (if (i < 0 ∨ m.inputs ≤ i) ∨ (true = false) then (1 : Int) else 0) = 0 := if_neg (fun h => h.elim h1 (fun h => by cases h))
        rw [hw, if_neg (by decide)]
        refine Eq.trans (cf rfl) ?_
        rw [gd_pos ⟨by omega, by omega, by omega⟩, mk_nat, bd_pos (withL_eq hs hN), gd_pos h0.2, gd_pos (show okI (ix m.rows s) i from ⟨by omega, by rw [ix_int, hrow]; omega⟩)]; rfl
theorem Witho_eq {N : Nat} {m : Mach} (hs : Small m) {s i : Int} {x : Edge} (hN : 200 ≤ N) : machines_With_o N m s i x = some (withR m s i x, withC m s i x) := by
  have hr := hs.r
  unfold machines_With_o withR withC
  rw [bd_pos (state_eq hs hN s)]
  by_cases h : stateM m s ≠ 0
  · rw [cd_t h, if_pos h, if_pos h]
  · rw [cd_f h, if_neg h, bd_gop (fun _ => fits_eq N m x)]
    have h0 := stateM_0 (m := m) (s := s) (by simpa using h)
    by_cases h1 : i < 0 ∨ m.inputs ≤ i
    · have hw : (if (i < 0 ∨ m.inputs ≤ i) ∨ fitsB m x = false then (1 : Int) else 0) = 1 := if_pos (.inl h1)
      rw [hw, if_pos (by decide), ct]
      rcases h1 with h1 | h1
      · rw [decide_eq_true h1]; rfl
      · rw [decide_eq_true h1]; simp
    · have hd : (decide (i < 0) || decide (m.inputs ≤ i)) = false := by simpa using h1
      rw [hd]
      cases hf : fitsB m x
      · have hw : (if (i < 0 ∨ m.inputs ≤ i) ∨ (false = false) then (1 : Int) else 0) = 1 := if_pos (.inr rfl)
        rw [hw, if_pos (by decide)]; rfl
      · have hrow := h0.1.row s.toNat (by omega)
        have hw : (if (i < 0 ∨ m.inputs ≤ i) ∨ (true = false) then (1 : Int) else 0) = 0 := if_neg (fun h => h.elim h1 (fun h => by cases h))
        rw [hw, if_neg (by decide)]
        refine Eq.trans (cf rfl) ?_
        rw [gd_pos ⟨by omega, by omega, by omega⟩, mk_nat, bd_pos (withLo_eq hs hN), gd_pos h0.2, gd_pos (show okI (ix m.rows s) i from ⟨by omega, by rw [ix_int, hrow]; omega⟩)]; rfl
theorem rwcheck_eq {N : Nat} {w : List Int} {n : Int} (hN : w.length < N) (hl : w.length ≤ 4611686018427387904) : gauntletref01_Check N w n = some (checkW w n) := by
  unfold gauntletref01_Check
  by_cases h : 16 < n ∨ 256 < w.length
  · rw [ct (by simp; omega), checkW_3 h]
  · rw [cf (by simp; omega)]
    by_cases h1 : n < 1
    · rw [cd_t h1, checkW_1 h (.inl h1)]
    · rw [cd_f h1]
      have hL : gauntletref01_Check_L1 N w n N 0 = some (if w.any (symBad n) = true then Ex.rt 1 else Ex.go ()) := by
        refine loop_eq (σ := Unit) (fun F k _ => gauntletref01_Check_L1 N w n F (k : Int)) w.length (fun k _ => (w.take k).any (symBad n) = false) _ (fun F k _ hk hi => ?_) (fun F _ hi => ?_) N 0 () (Nat.zero_le _) (by omega) (by simp)
        · simp only [gauntletref01_Check_L1]
          rw [cd_t (by omega), gd_pos (okI_nat hk), gd_pos (fun _ => okI_nat hk)]
          cases hp : symBad n (w.getD k default)
          · right
            refine ⟨(), by rw [take_any (symBad n) w k hk, hi, hp]; rfl, Eq.trans (cf (show symBad n (w.getD k default) = false from hp)) ?_⟩
            rw [gd_pos (in64_of (by omega))]; rfl
          · left
            refine Eq.trans (ct (show symBad n (w.getD k default) = true from hp)) ?_
            rw [if_pos (List.any_eq_true.2 ⟨_, getD_mem hk, hp⟩)]
        · simp only [gauntletref01_Check_L1]
          rw [cd_f (by omega), if_neg (by rw [List.take_length] at hi; rw [hi]; decide)]
      rw [bd_pos hL]
      by_cases ha : w.any (symBad n) = true
      · rw [if_pos ha, checkW_1 h (.inr ha)]; rfl
      · rw [if_neg ha, checkW_z h (fun h => h.elim h1 ha)]; rfl
theorem stateM_cases (m : Mach) (s : Int) : (bif (decide (checkM m = 0)) && ((decide (s < 0)) || (decide ((m.rows.length : Int) ≤ s))) then some (1 : Int) else some (checkM m)) = some (stateM m s) := by
  unfold stateM
  by_cases h : checkM m = 0
  · rw [decide_eq_true h, if_neg (by rw [h]; simp)]
    by_cases h1 : s < 0 ∨ (m.rows.length : Int) ≤ s
    · rw [if_pos h1, ct (by simpa using h1)]
    · rw [if_neg h1, cf (by simpa using h1), h]
  · rw [decide_eq_false h, if_pos h]; rfl
theorem stepC_cases (m : Mach) (s i : Int) : (bif (decide (stateM m s = 0)) && ((decide (i < 0)) || (decide (m.inputs ≤ i))) then some (1 : Int) else some (stateM m s)) = some (stepC m s i) := by
  unfold stepC
  by_cases h : stateM m s = 0
  · rw [decide_eq_true h, if_neg (by rw [h]; simp)]
    by_cases h1 : i < 0 ∨ m.inputs ≤ i
    · rw [if_pos h1, ct (by simpa using h1)]
    · rw [if_neg h1, cf (by simpa using h1), h]
  · rw [decide_eq_false h, if_pos h]; rfl
theorem with_step (m : Mach) (s i : Int) : withC m s i ⟨0, 0⟩ = stepC m s i := by
  unfold withC stepC
  by_cases h : stateM m s ≠ 0
  · rw [if_pos h, if_pos h]
  · rw [if_neg h, if_neg h]
    have h0 := stateM_0 (m := m) (s := s) (by simpa using h)
    have hr := h0.1.r1
    have ho := h0.1.o1
    have hf : fitsB m ⟨0, 0⟩ = true := (fitsB_iff m _).2 (.inr ⟨Int.le_refl _, by show (0 : Int) < _; omega, Int.le_refl _, by show (0 : Int) < _; omega⟩)
    by_cases h1 : i < 0 ∨ m.inputs ≤ i
    · rw [if_pos (.inl h1), if_pos h1]
    · rw [if_neg (fun h => h.elim h1 (fun h => by rw [hf] at h; cases h)), if_neg h1]
theorem check_law {m : Mach} {p : Int × Int} {w : List Int} : gauntletlaw04_MachinesCheck 2000 m p w = some true := by
  unfold gauntletlaw04_MachinesCheck
  rw [bd_pos (great_eq (by decide))]
  by_cases hg : greatI m = 1 ∨ 300 < w.length
  · rw [ct (by simp only [Bool.or_eq_true, decide_eq_true_eq]; omega)]
  · rw [cf (by simp only [Bool.or_eq_false_iff, decide_eq_false_iff_not]; omega)]
    have hsm : Small m := (great_small (great_ne (fun h => hg (.inl h)))).1
    have hwl : w.length ≤ 300 := by omega
    rw [bd_pos (rcheck_eq hsm (by decide)), bd_pos (complete_eq hsm (by decide)), bd_pos (connected_eq hsm (by decide)), bd_pos (trans_eq hsm (by decide)), bd_pos (undefined_eq hsm (by decide)), bd_pos (check_eq hsm (by decide)), bd_gop (fun _ => msame_eq hsm hsm (by decide))]
    have hsame : sameR m m = decide (checkM m = 0) := by
      by_cases e : checkM m = 0
      · rw [decide_eq_true e, (sameR_iff m m).2 ⟨(checkM_iff m).1 e, rfl⟩]
      · rw [decide_eq_false e]
        cases h : sameR m m
        · rfl
        · exact absurd ((checkM_iff m).2 ((sameR_iff m m).1 h).1) e
    rw [hsame]
    have hfirst : ((((((decide (checkM m ≠ checkM m) || decide (checkM m ≠ checkM m)) || decide (checkM m ≠ checkM m)) || decide (checkM m ≠ checkM m)) || decide (checkM m ≠ checkM m)) || (decide (checkM m ≠ 0) && (((complR m || (if checkM m ≠ 0 then false else connB m)) || decide (traR m ≠ 0)) || decide (((undR m).length : Int) ≠ 0))))) = false := by
      by_cases e : checkM m = 0
      · simp [e]
      · simp [e, complR, traR, undR]
    refine Eq.trans (cf ?_) ?_
    · show (_ || decide (_ ≠ _)) = false
      rw [hfirst]
      simp
    · rw [bd_pos (stateM_cases m p.1), bd_pos (Step_eq hsm (by decide)), show gauntletlaw04_edge 2000 0 0 = some ⟨0, 0⟩ from rfl, bd_s, bd_pos (With_eq hsm (by decide)), bd_pos (stepC_cases m p.1 p.2), bd_gop (fun _ => rfl)]
      rw [with_step]
      have hR : withR m p.1 p.2 ⟨0, 0⟩ = if stepC m p.1 p.2 ≠ 0 then ⟨0, 0, []⟩ else setM m p.1 p.2 ⟨0, 0⟩ := by unfold withR; rw [with_step]
      have hfacts : stepC m p.1 p.2 = 0 → MOk m ∧ (0 ≤ p.1 ∧ p.1 < m.rows.length) ∧ (0 ≤ p.2 ∧ p.2 < m.inputs) := fun h => by
        unfold stepC at h
        by_cases h1 : stateM m p.1 ≠ 0
        · rw [if_pos h1] at h; exact absurd h h1
        · rw [if_neg h1] at h
          have h0 := stateM_0 (m := m) (s := p.1) (by simpa using h1)
          by_cases h2 : p.2 < 0 ∨ m.inputs ≤ p.2
          · rw [if_pos h2] at h; cases h
          · exact ⟨h0.1, h0.2, by omega, by omega⟩
      have hE : stepC m p.1 p.2 = 0 → stepE m p.1 p.2 = ix (ix m.rows p.1) p.2 := fun h => by
        have hf := hfacts h
        have hst := stateM_ok hf.1 hf.2.1
        unfold stepE
        rw [if_neg (by rw [hst]; simp), if_neg (by omega)]; rfl
      have hE0 : stepC m p.1 p.2 ≠ 0 → stepE m p.1 p.2 = ⟨0, 0⟩ := fun h => by
        unfold stepC at h
        unfold stepE
        by_cases h1 : stateM m p.1 ≠ 0
        · rw [if_pos h1]
        · rw [if_neg h1] at h ⊢
          by_cases h2 : p.2 < 0 ∨ m.inputs ≤ p.2
          · rw [if_pos h2]
          · rw [if_neg h2] at h; exact absurd rfl h
      have hguard : ∀ c : Bool, ((c && (decide (stepC m p.1 p.2 = 0) == true)) = true → okI m.rows p.1) ∧ ((c && (decide (stepC m p.1 p.2 = 0) == true)) = true → okI (ix m.rows p.1) p.2) := fun c => by
        refine ⟨fun h => ?_, fun h => ?_⟩
        · have h1 : stepC m p.1 p.2 = 0 := by cases c <;> simp at h; exact h
          exact (hfacts h1).2.1
        · have h1 : stepC m p.1 p.2 = 0 := by cases c <;> simp at h; exact h
          have hf := hfacts h1
          have hrow := hf.1.row p.1.toNat (by omega)
          exact ⟨hf.2.2.1, by rw [ix_int, hrow]; exact hf.2.2.2⟩
      rw [gd_pos (hguard _).1, gd_pos (hguard _).2]
      refine Eq.trans (cf ?_) ?_
      · by_cases h : stepC m p.1 p.2 = 0
        · simp [h, hE h]
        · simp [h, hE0 h, hR]
      · have hrc : (bif decide (stateM m p.1 = 0) then bd (gauntletref01_Check 2000 w m.inputs) fun y410 => some y410 else some (stateM m p.1)) = some (runC m p.1 w) := by
          unfold runC
          by_cases h : stateM m p.1 = 0
          · rw [cd_t h, if_neg (by rw [h]; simp), bd_pos (rwcheck_eq (by omega) (by omega))]
          · rw [cd_f h, if_pos h]
        rw [bd_pos hrc, bd_pos (Run_eq hsm (by decide) (by omega) (by omega)), bd_pos (After_eq hsm (by decide) (by omega) (by omega))]
        by_cases h : runC m p.1 w = 0
        · have hst : stateM m p.1 = 0 := by
            unfold runC at h
            by_cases h1 : stateM m p.1 ≠ 0
            · rw [if_pos h1] at h; exact h
            · simpa using h1
          have hcw : checkW w m.inputs = 0 := by
            unfold runC at h; rw [if_neg (by rw [hst]; simp)] at h; exact h
          have h0 := stateM_0 hst
          have hw := checkW_0 hcw
          obtain ⟨r1, r2, r3⟩ := runR_ok h0.1 h0.2 hw.1 hw.2
          have hlr := runL_length m p.1 w
          rw [cd_f (fun h' => h' h), r1, r2, r3, bd_pos (rrun_eq h0.1 (.inr h0.2) hw.1 (by omega) (by omega)), bd_pos (list_eq (show (runL m p.1 w).length < 2000 by omega) (show (runL m p.1 w).length ≤ _ by omega)), bd_gop (fun _ => raft_eq h0.1 2000 p.1 w (.inr h0.2) hw.1 (by omega)), bd_gop (fun _ => lives_eq)]
          simp
        · have hr0 : runR m p.1 w = [] := by
            unfold runR runC at *
            by_cases h1 : stateM m p.1 ≠ 0
            · rw [if_pos h1]
            · rw [if_neg h1] at h ⊢; rw [if_pos h]
          have ha0 : aftR m p.1 w = 0 := by
            unfold aftR runC at *
            by_cases h1 : stateM m p.1 ≠ 0
            · rw [if_pos h1]
            · rw [if_neg h1] at h ⊢; rw [if_pos h]
          rw [cd_t h, hr0, ha0, bd_pos (list_eq (by simp) (by simp)), bd_gop (fun _ => lives_eq)]
          simp
end GV
end Go.Proofs.Ytohjnbajgbdhhaa
