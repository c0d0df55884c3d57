/- Chapter 04: the laws of the plain programs. -/
import Derived.Test.YtohjnbajgbdhhaaSpec04e
namespace Go.Proofs.Ytohjnbajgbdhhaa
namespace GV
set_option linter.unusedVariables false
set_option maxRecDepth 100000

theorem lives_eq : gauntletlaw04_lives 2000 = some true := by decide +kernel
theorem mach_eta (m : Mach) : (⟨m.inputs, m.outputs, m.rows⟩ : Mach) = m := rfl
theorem mOf_small {x : MDat} (hx : MDOk x) : Small (mOf x) := (mOf_ok hx).small
theorem cntR_le' (m : Mach) (hm : MOk m) : ∀ k, k ≤ m.rows.length → cntR m k ≤ m.inputs.toNat * k
  | 0, _ => by simp [cntR]
  | k + 1, h => by
    have h1 := cntR_le' m hm k (by omega)
    have h2 := hm.row k (by omega)
    have h3 := cntE_le (m.rows.getD k default) (m.rows.getD k default).length
    rw [cntR_succ m k (by omega), Nat.mul_succ]
    omega
theorem great_ne {m : Mach} (h : ¬ greatI m = 1) : greatI m = 0 := by
  unfold greatI at h ⊢
  split at h
  · exact absurd rfl h
  · rename_i h'; exact if_neg h'
theorem cntR_lt {m : Mach} (hm : MOk m) {k i : Nat} (hk : k < m.rows.length) (hi : i < (m.rows.getD k default).length) (hn : ((m.rows.getD k default).getD i default).to < 0) : ∀ j, k < j → j ≤ m.rows.length → cntR m j < m.inputs.toNat * j
  | 0, h, _ => by omega
  | j + 1, h, hj => by
    have hrow := hm.row j (by omega)
    have hc := cntE_le (m.rows.getD j default) (m.rows.getD j default).length
    rw [cntR_succ m j (by omega), Nat.mul_succ]
    by_cases e : k = j
    · subst e
      have h1 : cntR m k ≤ m.inputs.toNat * k := cntR_le' m hm k (by omega)
      have h2 : cntE (m.rows.getD k default) (m.rows.getD k default).length < (m.rows.getD k default).length := by
        unfold cntE
        rw [List.take_length]
        refine Nat.lt_of_le_of_ne List.countP_le_length fun he => ?_
        have h5 := List.countP_eq_length.1 he _ (getD_mem hi)
        exact absurd (of_decide_eq_true h5) (by omega)
      omega
    · have := cntR_lt hm hk hi hn j (by omega) (by omega)
      omega
theorem compl_all {m : Mach} (hm : MOk m) (h : complB m = true) {k i : Nat} (hk : k < m.rows.length) (hi : i < (m.rows.getD k default).length) : 0 ≤ ((m.rows.getD k default).getD i default).to := by
  by_cases hn : ((m.rows.getD k default).getD i default).to < 0
  · have h1 := cntR_lt hm hk hi hn m.rows.length hk (Nat.le_refl _)
    unfold complB at h
    have h2 := of_decide_eq_true h
    rw [hm.mul.2] at h2
    have h3 : defd m = m.rows.length * m.inputs.toNat := Int.ofNat.inj h2
    unfold defd at h3
    rw [Nat.mul_comm] at h3
    omega
  · omega
theorem compl_next {m : Mach} (hm : MOk m) (h : complB m = true) {s i : Int} (hs : 0 ≤ s ∧ s < m.rows.length) (hi : 0 ≤ i ∧ i < m.inputs) : (0 ≤ (nextE m s i).to ∧ (nextE m s i).to < m.rows.length) ∧ 0 ≤ (nextE m s i).out := by
  have hrow := hm.row s.toNat (by omega)
  have h1 := compl_all hm h (k := s.toNat) (i := i.toNat) (by omega) (by omega)
  have h2 := hm.edge s.toNat i.toNat (by omega) (by omega)
  unfold nextE
  rw [if_neg (by omega)]
  rcases h2 with h2 | h2 <;> omega
theorem compl_aft {m : Mach} (hm : MOk m) (h : complB m = true) : ∀ (s : Int) (w : List Int), (0 ≤ s ∧ s < m.rows.length) → WOk m.inputs w → (0 ≤ aftL m s w ∧ aftL m s w < m.rows.length)
  | s, [], hs, _ => hs
  | s, i :: w, hs, hw => compl_aft hm h _ w (compl_next hm h hs (by simpa using hw 0 (by simp))).1 (fun k hk => by simpa using hw (k + 1) (by simpa using hk))
theorem compl_out {m : Mach} (hm : MOk m) {s : Int} {w : List Int} {k : Nat} (hs : 0 ≤ s ∧ s < m.rows.length) (hw : WOk m.inputs w) (hk : k < w.length) (hn : (nextE m (aftL m s (w.take k)) (w.getD k default)).out < 0) : complB m = false := by
  cases h : complB m
  · rfl
  · have h1 := compl_aft hm h s (w.take k) hs (wok_take hw k)
    have h2 := (compl_next hm h h1 (hw k hk)).2
    omega
theorem same_law {x y : MDat} {raw : Mach} (hx : MDOk x) (hy : MDOk y) : gauntletlaw04_MachinesSame 2000 x y raw = some true := by
  unfold gauntletlaw04_MachinesSame
  rw [bd_pos (great_eq (by decide))]
  by_cases hg : greatI raw = 1
  · rw [cd_t hg]
  · rw [cd_f hg]
    have hsm : Small raw := (great_small (great_ne hg)).1
    have h1 := mOf_small hx
    have h2 := mOf_small hy
    have hok := mOf_ok hx
    rw [bd_pos (mof_eq hx (by decide)), bd_pos (mof_eq hy (by decide))]
    simp only [mach_eta]
    have h3 : Small (⟨(mOf x).inputs, (mOf x).outputs + 1, (mOf x).rows⟩ : Mach) := ⟨h1.r, h1.c⟩
    have hs : ∀ a b : Mach, MOk a → sameR a b = decide (a = b) := fun a b ha => by
      cases e : sameR a b
      · rw [eq_comm, decide_eq_false_iff_not]; intro he; have := (sameR_iff a b).2 ⟨ha, he⟩; rw [e] at this; cases this
      · rw [eq_comm, decide_eq_true_eq]; exact ((sameR_iff a b).1 e).2
    rw [bd_pos (msame_eq h1 h2 (by decide)), bd_pos (rsame_eq h1 (by decide)), bd_gop (fun _ => msame_eq h2 h1 (by decide)), bd_gop (fun _ => rsame_eq h1 (by decide)), bd_gop (fun _ => msame_eq h1 h1 (by decide)), hs _ _ hok, hs _ _ (mOf_ok hy), hs _ _ hok]
    have hc : decide (mOf y = mOf x) = decide (mOf x = mOf y) := by
      by_cases e : mOf x = mOf y
      · rw [decide_eq_true e, decide_eq_true e.symm]
      · rw [decide_eq_false e, decide_eq_false (fun h => e h.symm)]
    rw [hc]
    have ho := hok.o2
    have ho1 := hok.o1
    rw [cf (by simp), gd_pos (in64_of (by omega)), bd_pos (msame_eq h1 h3 (by decide)), hs _ _ hok]
    have hne : ¬ (mOf x = (⟨(mOf x).inputs, (mOf x).outputs + 1, (mOf x).rows⟩ : Mach)) := fun e => by
      have := congrArg Mach.outputs e
      simp only at this
      omega
    rw [decide_eq_false hne, bd_gop (fun _ => msame_eq h1 hsm (by decide)), bd_gop (fun _ => rsame_eq h1 (by decide)), bd_gop (fun _ => rcheck_eq hsm (by decide)), bd_gop (fun _ => msame_eq hsm hsm (by decide)), bd_gop (fun _ => lives_eq), hs _ _ hok]
    have hr : decide (checkM raw = 0) = sameR raw raw := by
      by_cases e : checkM raw = 0
      · rw [decide_eq_true e, (sameR_iff raw raw).2 ⟨(checkM_iff raw).1 e, rfl⟩]
      · rw [decide_eq_false e]
        cases h : sameR raw raw
        · rfl
        · exact absurd ((checkM_iff raw).2 ((sameR_iff raw raw).1 h).1) e
    simp only [Bool.not_false, Bool.true_and, beq_true, cond_true, Option.getD_some, decide_true]
    cases e : sameR raw raw
    · rw [e] at hr; rw [hr]; simp
    · rw [e] at hr; rw [hr]; simp
theorem run_law {x : MDat} {y : WDat} {f : Int} (hx : MDOk x) (hy : WDOk y) (hf : 0 ≤ f ∧ f ≤ 255) : gauntletlaw04_MachinesRun 2000 x y f = some true := by
  have hok := mOf_ok hx
  have hsm := mOf_small hx
  have hw := wOf_ok (x := y) (n := (mOf x).inputs) hok.i1
  have hr1 := hok.r1
  have hr2 := hok.r2
  unfold gauntletlaw04_MachinesRun
  rw [bd_pos (mof_eq hx (by decide)), bd_pos (wof_eq hy hok.i1 (by decide)), gd_pos (in64_of (by omega)), gd_pos ⟨hf.1, by omega⟩]
  simp only [mach_eta]
  generalize hm : mOf x = m at *
  generalize hwe : wOf y m.inputs = w at *
  have hs : 0 ≤ f % (m.rows.length : Int) ∧ f % (m.rows.length : Int) < m.rows.length := ⟨Int.emod_nonneg _ (by omega), Int.emod_lt_of_pos _ (by omega)⟩
  generalize f % (m.rows.length : Int) = s at *
  have hst := stateM_ok hok hs
  have hcw := checkW_ok hok.i1 hok.i2 hw.1 (by omega)
  have hR : runR m s w = runL m s w := by unfold runR; rw [if_neg (by rw [hst]; simp), if_neg (by rw [hcw]; simp)]
  have hA : aftR m s w = aftL m s w := by unfold aftR; rw [if_neg (by rw [hst]; simp), if_neg (by rw [hcw]; simp)]
  have hC : runC m s w = 0 := by unfold runC; rw [if_neg (by rw [hst]; simp), hcw]
  have hlr := runL_length m s w
  rw [bd_pos (Run_eq hsm (by decide) (by omega) (by omega)), bd_pos (After_eq hsm (by decide) (by omega) (by omega)), hR, hA, hC, bd_gop (fun _ => rrun_eq hok (.inr hs) hw.1 (by omega) (by omega)), bd_gop (fun _ => list_eq (show (runL m s w).length < 2000 by omega) (show (runL m s w).length ≤ _ by omega)), bd_gop (fun _ => raft_eq hok 2000 s w (.inr hs) hw.1 (by omega))]
  rw [cf (by simp)]
  have hL : gauntletlaw04_MachinesRun_L1 2000 m w (runL m s w, 0) 2000 s 0 = some (Ex.go (aftL m s w)) := by
    refine loop_eq (fun F k t => gauntletlaw04_MachinesRun_L1 2000 m w (runL m s w, 0) F t (k : Int)) w.length (fun k t => t = aftL m s (w.take k)) _ (fun F k t hk ht => .inr ?_) (fun F t ht => ?_) 2000 0 s (Nat.zero_le _) (by omega) (by simp [aftL])
    · subst ht
      have hst' := aftL_ok m hok s (w.take k) (.inr hs) (wok_take hw.1 k)
      have hwk := hw.1 k hk
      refine ⟨aftL m s (w.take (k + 1)), rfl, ?_⟩
      simp only [gauntletlaw04_MachinesRun_L1, mach_eta]
      rw [cd_t (by omega), show gauntletlaw04_edge 2000 (-1) (-1) = some ⟨-1, -1⟩ from rfl, bd_s]
      have hn : (bif decide (0 ≤ aftL m s (w.take k)) then (gd (okI w (k : Int)) <| bd (machines_Step 2000 m (aftL m s (w.take k)) (ix w (k : Int))) fun y118 => bif decide (y118.2 ≠ 0) then (some (Ex.rt (Ex.rt false))) else (some (Ex.go (y118.1.to, y118.1.out)))) else (some (Ex.go ((-1 : Int), (-1 : Int))))) =
          some (Ex.go (α := Int × Int) (β := Ex Int Bool) ((nextE m (aftL m s (w.take k)) (w.getD k default)).to, (nextE m (aftL m s (w.take k)) (w.getD k default)).out)) := by
        rcases hst' with h | h
        · rw [h]; rfl
        · rw [cd_t h.1, gd_pos (okI_nat hk)]
          refine Eq.trans (bd_pos (Step_eq hsm (by decide))) ?_
          have h0 := stateM_ok hok h
          have e1 : stepC m (aftL m s (w.take k)) (ix w (k : Int)) = 0 := by
            unfold stepC; rw [if_neg (by rw [h0]; simp)]; exact if_neg (show ¬ (w.getD k default < 0 ∨ m.inputs ≤ w.getD k default) by omega)
          have e2 : stepE m (aftL m s (w.take k)) (ix w (k : Int)) = nextE m (aftL m s (w.take k)) (w.getD k default) := by
            unfold stepE nextE; rw [if_neg (by rw [h0]; simp), if_neg (show ¬ aftL m s (w.take k) < 0 by omega)]; exact if_neg (show ¬ (w.getD k default < 0 ∨ m.inputs ≤ w.getD k default) by omega)
          rw [e1, e2]; rfl
      refine Eq.trans (bd_pos hn) ?_
      rw [on_g]
      have hki : k < (runL m s w).length := by omega
      have hxo : (runL m s w).getD k default = (nextE m (aftL m s (w.take k)) (w.getD k default)).out := by
        have h1 := runL_take m s w k hk
        have h2 : runL m s w = runL m s (w.take (k + 1)) ++ runL m (aftL m s (w.take (k + 1))) (w.drop (k + 1)) := by rw [← runL_append, List.take_append_drop]
        have hl := runL_length m s (w.take k)
        rw [List.length_take] at hl
        rw [h2, h1, List.append_assoc]
        simp only [List.getD_eq_getElem?_getD]
        rw [List.getElem?_append_right (by omega), show k - (runL m s (w.take k)).length = 0 by omega]; rfl
      have hxi : ix (runL m s w) (k : Int) = (nextE m (aftL m s (w.take k)) (w.getD k default)).out := hxo
      rw [gd_pos (okI_nat hki), gd_pos (fun _ => okI_nat hki), bd_gop (fun _ => rcomplete_eq hok (by decide))]
      simp only [hxi]
      have hfin : (decide ((nextE m (aftL m s (w.take k)) (w.getD k default)).out ≠ (nextE m (aftL m s (w.take k)) (w.getD k default)).out) || (decide ((nextE m (aftL m s (w.take k)) (w.getD k default)).out < 0) && ((bif (true && (decide ((nextE m (aftL m s (w.take k)) (w.getD k default)).out ≠ (nextE m (aftL m s (w.take k)) (w.getD k default)).out) == false)) && (decide ((nextE m (aftL m s (w.take k)) (w.getD k default)).out < 0) == true) then some (complB m) else none).getD default))) = false := by
        rw [decide_eq_false (fun h => h rfl)]
        by_cases hneg : (nextE m (aftL m s (w.take k)) (w.getD k default)).out < 0
        · rw [decide_eq_true hneg]
          show (false || (true && complB m)) = false
          simp only [Bool.false_or, Bool.true_and]
          exact compl_out hok hs hw.1 hk hneg
        · rw [decide_eq_false hneg]; rfl
      refine Eq.trans (cf hfin) ?_
      rw [gd_pos (in64_of (by omega)), aftL_take m s w k hk]; rfl
    · subst ht
      simp only [gauntletlaw04_MachinesRun_L1]
      rw [cd_f (by omega), List.take_length]
  rw [bd_pos hL, on_g, bd_gop (fun _ => lives_eq)]
  simp
end GV
end Go.Proofs.Ytohjnbajgbdhhaa
