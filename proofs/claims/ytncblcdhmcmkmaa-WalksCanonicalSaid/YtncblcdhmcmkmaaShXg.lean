/- The walks of the functions; printed. -/
import Derived.Test.YtncblcdhmcmkmaaShWe
import Derived.Test.YtncblcdhmcmkmaaShXa
import Derived.Test.YtncblcdhmcmkmaaShXb
import Derived.Test.YtncblcdhmcmkmaaShXc
import Derived.Test.YtncblcdhmcmkmaaShXe
import Derived.Test.YtncblcdhmcmkmaaRows
namespace Go.Proofs.Ytncblcdhmcmkmaa
namespace GV
open Go.IntWalk
set_option linter.unusedVariables false
set_option linter.unusedSimpArgs false
set_option maxRecDepth 100000
set_option maxHeartbeats 20000000
theorem c_gauntletref06_less {N : Nat} {R : RH} {a : (List Int)} {v_a : Value} (h_a : VRep (tSl false (tInt .i64)) R v_a a) {b : (List Int)} {v_b : Value} (h_b : VRep (tSl false (tInt .i64)) R v_b b) {r : Int} (hd0 : gauntletref06_less N a b = some r) : CallP Try.prog 66 #[v_a, v_b] R (fun v R' => v = (.int .i64 r)) := by
  refine callP_of_wg (args := [v_a, v_b]) Try.func66 rfl rfl fun A => ?_
  rw [gauntletref06_less] at hd0
  refine wg_seq ?_
  refine wg_region ?_
  refine wo_v rfl (val_assign (v := (.int .i64 0)) rfl) ?_
  refine wo_nil ?_
  refine wg_seq ?_
  refine wg_seq ?_
  refine wg_region ?_
  refine wo_v rfl (val_move (v := v_a) rfl) ?_
  refine wo_v rfl (val_lenR rfl Try.underlying36 rfl (sl_s h_a)) ?_
  refine wo_v rfl (val_move (v := v_b) rfl) ?_
  refine wo_v rfl (val_lenR rfl Try.underlying36 rfl (sl_s h_b)) ?_
  refine wo_v rfl (val_neq rfl rfl) ?_
  refine wo_nil ?_
  refine wg_cond rfl (fun e1 => ?_) (fun e1 => ?_)
  · replace hd0 := sel_t e1 hd0; clear e1
    refine wg_seq ?_
    refine wg_seq ?_
    refine wg_region ?_
    refine wo_v rfl (val_move (v := v_a) rfl) ?_
    refine wo_v rfl (val_lenR rfl Try.underlying36 rfl (sl_s h_a)) ?_
    refine wo_v rfl (val_move (v := v_b) rfl) ?_
    refine wo_v rfl (val_lenR rfl Try.underlying36 rfl (sl_s h_b)) ?_
    refine wo_v rfl (val_lss rfl rfl) ?_
    refine wo_nil ?_
    refine wg_cond rfl (fun e2 => ?_) (fun e2 => ?_)
    · replace hd0 := sel_t e2 hd0; clear e2
      refine wg_seq ?_
      refine wg_region ?_
      refine wo_v rfl (val_assign (v := (.int .i64 1)) rfl) ?_
      refine wo_nil ?_
      refine wg_ret ?_
      obtain rfl := Option.some.inj hd0
      refine body_end (D := []) (J := []) (rs := [.tmp 4]) (vs := [(.int .i64 1)]) (RH.le.refl _) rfl rfl ⟨rfl, trivial⟩ ?_
      exact ⟨rfl, rfl⟩
    · replace hd0 := sel_f e2 hd0; clear e2
      refine wg_skip ?_
      refine wg_seq ?_
      refine wg_region ?_
      refine wo_v rfl (val_assign (v := (.int .i64 0)) rfl) ?_
      refine wo_nil ?_
      refine wg_ret ?_
      obtain rfl := Option.some.inj hd0
      refine body_end (D := []) (J := []) (rs := [.tmp 4]) (vs := [(.int .i64 0)]) (RH.le.refl _) rfl rfl ⟨rfl, trivial⟩ ?_
      exact ⟨rfl, rfl⟩
  · replace hd0 := sel_f e1 hd0; clear e1
    refine wg_skip ?_
    replace hd0 := bd_some hd0; obtain ⟨q4, hd1, hd0⟩ := hd0
    refine wg_meet (γ := Unit) true [5, 16, 17, 18, 19, 22, 23, 24, 25, 26, 27, 28, 29, 30, 31, 32, 33, 34, 35, 36, 37, 38, 39, 4, 20, 21] (fun g => []) (fun g => [] ++ A) (fun g R => q4 = Ex.go g ∧ True) ?_ ?_
    ·
      refine wg_seq ?_
      refine wg_region ?_
      refine wo_v rfl (val_assign (v := (.int .i64 0)) rfl) ?_
      refine wo_nil ?_
      refine wg_block ?_
      refine wg_loopS (γ := Nat × Int) true [16, 17, 18, 19, 22, 23, 24, 25, 26, 27, 28, 29, 30, 31, 32, 33, 34, 35, 36, 37, 38, 39, 4, 20, 21, 5] (fun g => [(5, (.int .i64 g.2))]) (fun g => [] ++ A) (fun g R => gauntletref06_less_L1 N a b g.1 g.2 = some q4 ∧ True) (fun g => g.1) (N, 0) ⟨rfl, trivial⟩ ⟨[], List.Perm.refl _⟩ ⟨hd1, trivial⟩ (fun _ => rfl) ?_
      clear hd1
      rintro ⟨F7, x8⟩ j59 D60 R9 hD61 le10 ⟨hd1, _⟩
      obtain rfl := hD61 rfl
      rcases F7 with _ | F7
      · exact none_elim hd1
      replace hd1 : gauntletref06_less_L1 N a b (F7 + 1) x8 = some q4 := hd1; rw [gauntletref06_less_L1] at hd1
      refine wg_seq ?_
      refine wg_seq ?_
      refine wg_region ?_
      refine wo_v rfl (val_move (v := (.int .i64 x8)) rfl) ?_
      refine wo_v rfl (val_move (v := v_a) rfl) ?_
      refine wo_v rfl (val_lenR rfl Try.underlying36 rfl (sl_s (h_a.mono le10))) ?_
      refine wo_v rfl (val_lss rfl rfl) ?_
      refine wo_nil ?_
      refine wg_cond rfl (fun e11 => ?_) (fun e11 => ?_)
      · replace hd1 := sel_t e11 hd1; clear e11
        refine wg_skip ?_
        refine wg_seq ?_
        refine wg_block ?_
        refine wg_seq ?_
        have g12 := (gd_some hd1).1; replace hd1 := (gd_some hd1).2
        have g13 := (gd_some hd1).1; replace hd1 := (gd_some hd1).2
        refine wg_drawn 9 [] [phX v_a, phX (.int .i64 x8), phP (tInt .i64) (ix a x8), phX (.int .i64 (ix a x8)), phX v_b, phX (.int .i64 x8), phP (tInt .i64) (ix b x8), phX (.int .i64 (ix b x8)), phX (.bool (decide ((ix a x8) ≠ (ix b x8))))] mixed (by kernel_rfl) (monoOk_of ⟨mono_x, mono_x, mono_p, mono_x, mono_x, mono_x, mono_p, mono_x, mono_x, trivial⟩) ⟨?_, ?_, ?_, ?_, ?_, ?_, ?_, ?_, ?_, trivial⟩ fun R14 le15 => ?_
        · intro l R0q hle ha hd
          have a0 : l 0 = v_a := ha 0 rfl
          exact gstep_plain rfl rfl rfl (ph_val (val_move a0))
        · intro l R1q hle ha hd
          have a5 : l 5 = (.int .i64 x8) := ha 5 rfl
          exact gstep_plain rfl rfl rfl (ph_val (val_move a5))
        · intro l R2q hle ha hd
          obtain ⟨d0, d1, _⟩ := hd
          have f22 : l 22 = v_a := d0 rfl
          have f23 : l 23 = (.int .i64 x8) := d1 rfl
          exact gstep_plain rfl rfl rfl (ph_indexR (i := x8.toNat) sl36 f22 (sl_s ((h_a.mono le10).mono hle)) (idx_nonneg f23 g12.1) (okI_lt g12))
        · intro l R3q hle ha hd
          obtain ⟨d0, _⟩ := hd
          have f24 : phP (tInt .i64) (ix a x8) (l 24) R3q := d0 rfl
          exact gstep_plain rfl rfl rfl (ph_exact (ph_loadR ty3 rfl f24) (fun _ _ h => vrep_int.1 h))
        · intro l R4q hle ha hd
          have a1 : l 1 = v_b := ha 1 rfl
          exact gstep_plain rfl rfl rfl (ph_val (val_move a1))
        · intro l R5q hle ha hd
          have a5 : l 5 = (.int .i64 x8) := ha 5 rfl
          exact gstep_plain rfl rfl rfl (ph_val (val_move a5))
        · intro l R6q hle ha hd
          obtain ⟨d0, d1, _⟩ := hd
          have f26 : l 26 = v_b := d0 rfl
          have f27 : l 27 = (.int .i64 x8) := d1 rfl
          exact gstep_plain rfl rfl rfl (ph_indexR (i := x8.toNat) sl36 f26 (sl_s ((h_b.mono le10).mono hle)) (idx_nonneg f27 g13.1) (okI_lt g13))
        · intro l R7q hle ha hd
          obtain ⟨d0, _⟩ := hd
          have f28 : phP (tInt .i64) (ix b x8) (l 28) R7q := d0 rfl
          exact gstep_plain rfl rfl rfl (ph_exact (ph_loadR ty3 rfl f28) (fun _ _ h => vrep_int.1 h))
        · intro l R8q hle ha hd
          obtain ⟨d0, d1, _⟩ := hd
          have f25 : l 25 = (.int .i64 (ix a x8)) := d0 rfl
          have f29 : l 29 = (.int .i64 (ix b x8)) := d1 rfl
          exact gstep_plain rfl rfl rfl (ph_val (val_neq f25 f29))
        intro v16 h17
        intro v18 h19
        intro v20 h21
        intro v22 h23
        intro v24 h25
        intro v26 h27
        intro v28 h29
        intro v30 h31
        intro v32 h33
        obtain rfl := Eq.symm h17
        obtain rfl := Eq.symm h19
        obtain rfl := Eq.symm h23
        obtain rfl := Eq.symm h25
        obtain rfl := Eq.symm h27
        obtain rfl := Eq.symm h31
        obtain rfl := Eq.symm h33
        refine wo_nil ?_
        refine wg_cond rfl (fun e34 => ?_) (fun e34 => ?_)
        · replace hd1 := sel_t e34 hd1; clear e34
          refine wg_seq ?_
          refine wg_seq ?_
          have g35 := (gd_some hd1).1; replace hd1 := (gd_some hd1).2
          have g36 := (gd_some hd1).1; replace hd1 := (gd_some hd1).2
          refine wg_drawn 9 [] [phX v_a, phX (.int .i64 x8), phP (tInt .i64) (ix a x8), phX (.int .i64 (ix a x8)), phX v_b, phX (.int .i64 x8), phP (tInt .i64) (ix b x8), phX (.int .i64 (ix b x8)), phX (.bool (decide ((ix a x8) < (ix b x8))))] mixed (by kernel_rfl) (monoOk_of ⟨mono_x, mono_x, mono_p, mono_x, mono_x, mono_x, mono_p, mono_x, mono_x, trivial⟩) ⟨?_, ?_, ?_, ?_, ?_, ?_, ?_, ?_, ?_, trivial⟩ fun R37 le38 => ?_
          · intro l R0q hle ha hd
            have a0 : l 0 = v_a := ha 0 rfl
            exact gstep_plain rfl rfl rfl (ph_val (val_move a0))
          · intro l R1q hle ha hd
            have a5 : l 5 = (.int .i64 x8) := ha 5 rfl
            exact gstep_plain rfl rfl rfl (ph_val (val_move a5))
          · intro l R2q hle ha hd
            obtain ⟨d0, d1, _⟩ := hd
            have f31 : l 31 = v_a := d0 rfl
            have f32 : l 32 = (.int .i64 x8) := d1 rfl
            exact gstep_plain rfl rfl rfl (ph_indexR (i := x8.toNat) sl36 f31 (sl_s ((h_a.mono (le10.trans le15)).mono hle)) (idx_nonneg f32 g35.1) (okI_lt g35))
          · intro l R3q hle ha hd
            obtain ⟨d0, _⟩ := hd
            have f33 : phP (tInt .i64) (ix a x8) (l 33) R3q := d0 rfl
            exact gstep_plain rfl rfl rfl (ph_exact (ph_loadR ty3 rfl f33) (fun _ _ h => vrep_int.1 h))
          · intro l R4q hle ha hd
            have a1 : l 1 = v_b := ha 1 rfl
            exact gstep_plain rfl rfl rfl (ph_val (val_move a1))
          · intro l R5q hle ha hd
            have a5 : l 5 = (.int .i64 x8) := ha 5 rfl
            exact gstep_plain rfl rfl rfl (ph_val (val_move a5))
          · intro l R6q hle ha hd
            obtain ⟨d0, d1, _⟩ := hd
            have f35 : l 35 = v_b := d0 rfl
            have f36 : l 36 = (.int .i64 x8) := d1 rfl
            exact gstep_plain rfl rfl rfl (ph_indexR (i := x8.toNat) sl36 f35 (sl_s ((h_b.mono (le10.trans le15)).mono hle)) (idx_nonneg f36 g36.1) (okI_lt g36))
          · intro l R7q hle ha hd
            obtain ⟨d0, _⟩ := hd
            have f37 : phP (tInt .i64) (ix b x8) (l 37) R7q := d0 rfl
            exact gstep_plain rfl rfl rfl (ph_exact (ph_loadR ty3 rfl f37) (fun _ _ h => vrep_int.1 h))
          · intro l R8q hle ha hd
            obtain ⟨d0, d1, _⟩ := hd
            have f34 : l 34 = (.int .i64 (ix a x8)) := d0 rfl
            have f38 : l 38 = (.int .i64 (ix b x8)) := d1 rfl
            exact gstep_plain rfl rfl rfl (ph_val (val_lss f34 f38))
          intro v39 h40
          intro v41 h42
          intro v43 h44
          intro v45 h46
          intro v47 h48
          intro v49 h50
          intro v51 h52
          intro v53 h54
          intro v55 h56
          obtain rfl := Eq.symm h40
          obtain rfl := Eq.symm h42
          obtain rfl := Eq.symm h46
          obtain rfl := Eq.symm h48
          obtain rfl := Eq.symm h50
          obtain rfl := Eq.symm h54
          obtain rfl := Eq.symm h56
          refine wo_nil ?_
          refine wg_cond rfl (fun e57 => ?_) (fun e57 => ?_)
          · replace hd1 := sel_t e57 hd1; clear e57
            refine wg_seq ?_
            refine wg_region ?_
            refine wo_v rfl (val_assign (v := (.int .i64 1)) rfl) ?_
            refine wo_nil ?_
            refine wg_ret ?_
            replace hd0 := on_rt hd1 hd0
            obtain rfl := Option.some.inj hd0
            refine body_end (D := []) (J := []) (rs := [.tmp 4]) (vs := [(.int .i64 1)]) ((le10.trans le15).trans le38) rfl rfl ⟨rfl, trivial⟩ ?_
            exact ⟨rfl, rfl⟩
          · replace hd1 := sel_f e57 hd1; clear e57
            refine wg_skip ?_
            refine wg_seq ?_
            refine wg_region ?_
            refine wo_v rfl (val_assign (v := (.int .i64 0)) rfl) ?_
            refine wo_nil ?_
            refine wg_ret ?_
            replace hd0 := on_rt hd1 hd0
            obtain rfl := Option.some.inj hd0
            refine body_end (D := []) (J := []) (rs := [.tmp 4]) (vs := [(.int .i64 0)]) ((le10.trans le15).trans le38) rfl rfl ⟨rfl, trivial⟩ ?_
            exact ⟨rfl, rfl⟩
        · replace hd1 := sel_f e34 hd1; clear e34
          refine wg_skip ?_
          refine wg_region ?_
          refine wo_v rfl (val_move (v := (.int .i64 x8)) rfl) ?_
          have g58 := (gd_some hd1).1; replace hd1 := (gd_some hd1).2
          refine wo_v rfl (val_add rfl rfl g58) ?_
          refine wo_v rfl (val_assign (v := (.int .i64 (x8 + 1))) rfl) ?_
          refine wo_nil ?_
          exact ⟨(fun _ => rfl), le15, (by repeat (first | exact off_self | refine off_upd rfl ?_ | refine off_setl rfl ?_ | refine off_mask_sub rfl ?_)), (F7, x8 + 1), Nat.lt_succ_self _, ⟨rfl, trivial⟩, ⟨[], List.Perm.refl _⟩, hd1, trivial⟩
      · replace hd1 := sel_f e11 hd1; clear e11
        refine wg_exit ?_
        exact ⟨(fun _ => rfl), le10, (by repeat (first | exact off_self | refine off_upd rfl ?_ | refine off_setl rfl ?_ | refine off_mask_sub rfl ?_)), (), trivial, ⟨[], List.Perm.refl _⟩, (Option.some.inj hd1).symm, trivial⟩
    ·
      rintro o3 j62 D63 R5 hD64 le6 ⟨rfl, _⟩
      obtain rfl := hD64 rfl
      replace hd0 := on_go hd0
      refine wg_seq ?_
      refine wg_region ?_
      refine wo_v rfl (val_assign (v := (.int .i64 0)) rfl) ?_
      refine wo_nil ?_
      refine wg_ret ?_
      obtain rfl := Option.some.inj hd0
      refine body_end (D := []) (J := []) (rs := [.tmp 4]) (vs := [(.int .i64 0)]) le6 rfl rfl ⟨rfl, trivial⟩ ?_
      exact ⟨rfl, rfl⟩
theorem en66 : Enters Try.prog 66 := enters_of Try.func66 rfl (by kernel_rfl)
theorem c_gauntletref06_Order {N : Nat} {R : RH} {m : Mach} {v_m : Value} (h_m : VRep (kMach false false) R v_m m) {r : (List Int)} (hd0 : gauntletref06_Order N m = some r) : CallP Try.prog 49 #[v_m] R (fun v R' => VRep (tSl false (tInt .i64)) R' v r) := by
  refine callP_of_wg (args := [v_m]) Try.func49 rfl rfl fun A => ?_
  rw [gauntletref06_Order] at hd0
  refine wg_seq ?_
  refine wg_region ?_
  refine wo_boxR (T := (kMach false false)) rfl rfl h_m fun v1 R3 le4 h2 => ?_
  refine wo_v rfl (val_assign (v := (.slice none 0 0)) rfl) ?_
  refine wo_nil ?_
  refine wg_seq ?_
  refine wg_region ?_
  refine wo_loadR rfl ty27 rfl h2 fun v5 h6 => ?_
  replace hd0 := bd_some hd0; obtain ⟨y7, c8, hd0⟩ := hd0
  refine wo_callP rfl en13 rfl (c_gauntletref06_Access h6 c8) fun v9 R11 le12 h10 => ?_
  obtain ⟨v13, v15, rfl, h14, h16⟩ := h10
  refine wo_v rfl (val_move (v := (.tuple #[v13, v15])) rfl) ?_
  refine wo_v rfl (val_extract rfl rfl) ?_
  refine wo_v rfl (val_extract rfl rfl) ?_
  refine wo_v rfl (val_assign (v := v13) rfl) ?_
  refine wo_v rfl (val_assign (v := v15) rfl) ?_
  refine wo_nil ?_
  refine wg_seq ?_
  refine wg_region ?_
  refine wo_v rfl (val_assign (v := (.slice none 0 0)) rfl) ?_
  refine wo_nil ?_
  replace hd0 := bd_some hd0; obtain ⟨o17, hd1, hd0⟩ := hd0
  refine wg_meet (γ := (List Int) × Value × Frag) true [6, 14, 15, 16, 17, 20, 21, 22, 23, 24, 7, 25, 26, 27, 28, 29, 30, 31, 32, 33, 34, 35, 36, 37, 38, 39, 40, 41, 42, 43, 44, 45, 8, 46, 47, 48, 49, 50, 51, 52, 53, 54, 55, 56, 57, 58, 59, 5, 18, 19] (fun g => [(5, g.2.1)]) (fun g => [g.2.2] ++ A) (fun g R => o17 = g.1 ∧ ORep (tInt .i64) R g.2.2 g.2.1 g.1 ∧ True) ?_ ?_
  ·
    refine wg_seq ?_
    refine wg_region ?_
    refine wo_v rfl (val_assign (v := (.int .i64 0)) rfl) ?_
    refine wo_nil ?_
    refine wg_block ?_
    refine wg_emp ?_
    refine wg_loopS (γ := Nat × (List Int) × Int × Value × Frag) true [14, 15, 16, 17, 20, 21, 22, 23, 24, 7, 25, 26, 27, 28, 29, 30, 31, 32, 33, 34, 35, 36, 37, 38, 39, 40, 41, 42, 43, 44, 45, 8, 46, 47, 48, 49, 50, 51, 52, 53, 54, 55, 56, 57, 58, 59, 5, 18, 19, 6] (fun g => [(5, g.2.2.2.1), (6, (.int .i64 g.2.2.1))]) (fun g => [g.2.2.2.2] ++ A) (fun g R => gauntletref06_Order_L1 N y7 g.1 g.2.1 g.2.2.1 = some o17 ∧ ORep (tInt .i64) R g.2.2.2.2 g.2.2.2.1 g.2.1 ∧ True) (fun g => g.1) (N, ([] : List Int), 0, (.slice none 0 0), emp) ⟨rfl, rfl, trivial⟩ ⟨[], List.Perm.refl _⟩ ⟨hd1, (orep_emp (T := (tInt .i64))), trivial⟩ (fun _ => rfl) ?_
    clear hd1
    rintro ⟨F25, x26, x27, v30, f31⟩ j148 D149 R28 hD150 le29 ⟨hd1, h32, _⟩
    obtain rfl := hD150 rfl
    rcases F25 with _ | F25
    · exact none_elim hd1
    replace hd1 : gauntletref06_Order_L1 N y7 (F25 + 1) x26 x27 = some o17 := hd1; rw [gauntletref06_Order_L1] at hd1
    refine wg_seq ?_
    refine wg_seq ?_
    refine wg_region ?_
    refine wo_v rfl (val_move (v := (.int .i64 x27)) rfl) ?_
    refine wo_v rfl (val_move (v := v13) rfl) ?_
    refine wo_v rfl (val_lenR rfl Try.underlying29 rfl (sl_s (h14.mono le29))) ?_
    refine wo_v rfl (val_lss rfl rfl) ?_
    refine wo_nil ?_
    refine wg_cond rfl (fun e34 => ?_) (fun e34 => ?_)
    · replace hd1 := sel_t e34 hd1; clear e34
      refine wg_skip ?_
      replace hd1 := bd_some hd1; obtain ⟨o35, hd2, hd1⟩ := hd1
      refine wg_meet (γ := (List Int) × Value × Frag) true [20, 21, 22, 23, 24, 7, 25, 26, 27, 28, 29, 30, 31, 32, 33, 34, 35, 36, 37, 38, 39, 40, 41, 42, 43, 44, 45, 8, 46, 47, 48, 49, 50, 51, 52, 53, 54, 55, 56, 57, 58, 59, 5] (fun g => [(5, g.2.1)]) (fun g => [g.2.2] ++ A) (fun g R => o35 = g.1 ∧ ORep (tInt .i64) R g.2.2 g.2.1 g.1 ∧ True) ?_ ?_
      ·
        refine wg_block ?_
        refine wg_seq ?_
        refine wg_seq ?_
        refine wg_region ?_
        refine wo_v rfl (val_move (v := v15) rfl) ?_
        refine wo_v rfl (val_move (v := (.int .i64 x27)) rfl) ?_
        have g42 := (gd_some hd2).1; replace hd2 := (gd_some hd2).2
        refine wo_indexR (i := x27.toNat) rfl sl30 rfl (sl_s (h16.mono le29)) (idx_nonneg rfl g42.1) (okI_lt g42) fun v43 h44 => ?_
        refine wo_loadR rfl ty4 rfl h44 fun v45 h46 => ?_
        obtain rfl := vrep_bool.1 h46
        refine wo_v rfl (val_not rfl) ?_
        refine wo_nil ?_
        refine wg_cond rfl (fun e47 => ?_) (fun e47 => ?_)
        · replace hd2 := sel_t e47 hd2; clear e47
          refine wg_exit ?_
          exact ⟨(fun _ => rfl), (RH.le.refl _), (by repeat (first | exact off_self | refine off_upd rfl ?_ | refine off_setl rfl ?_ | refine off_mask_sub rfl ?_)), (x26, v30, f31), ⟨rfl, trivial⟩, ⟨[], List.Perm.refl _⟩, (Option.some.inj hd2).symm, h32, trivial⟩
        · replace hd2 := sel_f e47 hd2; clear e47
          refine wg_skip ?_
          refine wg_seq ?_
          refine wg_region ?_
          refine wo_v rfl (val_assign (v := (.int .i64 0)) rfl) ?_
          refine wo_nil ?_
          replace hd2 := bd_some hd2; obtain ⟨o48, hd3, hd2⟩ := hd2
          refine wg_meet (γ := Int) true [25, 26, 27, 28, 29, 30, 31, 32, 33, 34, 35, 36, 37, 38, 39, 40, 41, 42, 43, 44, 45, 7] (fun g => [(7, (.int .i64 g))]) (fun g => [f31] ++ A) (fun g R => o48 = g ∧ True) ?_ ?_
          ·
            refine wg_block ?_
            refine wg_loopS (γ := Nat × Int) true [25, 26, 27, 28, 29, 30, 31, 32, 33, 34, 35, 36, 37, 38, 39, 40, 41, 42, 43, 44, 45, 7] (fun g => [(7, (.int .i64 g.2))]) (fun g => [f31] ++ A) (fun g R => gauntletref06_Order_L2 N y7 x26 x27 g.1 g.2 = some o48 ∧ True) (fun g => g.1) (N, 0) ⟨rfl, trivial⟩ ⟨[], List.Perm.refl _⟩ ⟨hd3, trivial⟩ (fun _ => rfl) ?_
            clear hd3
            rintro ⟨F51, x52⟩ j102 D103 R53 hD104 le54 ⟨hd3, _⟩
            obtain rfl := hD104 rfl
            rcases F51 with _ | F51
            · exact none_elim hd3
            replace hd3 : gauntletref06_Order_L2 N y7 x26 x27 (F51 + 1) x52 = some o48 := hd3; rw [gauntletref06_Order_L2] at hd3
            refine wg_seq ?_
            refine wg_seq ?_
            have g55 := (gd_some hd3).1; replace hd3 := (gd_some hd3).2
            have g56 := (gd_some hd3).1; replace hd3 := (gd_some hd3).2
            have g57 := (gd_some hd3).1; replace hd3 := (gd_some hd3).2
            replace hd3 := bd_some hd3; obtain ⟨y58, c59, hd3⟩ := hd3
            refine wg_drawn 19 [] [phX (.int .i64 x52), phX v30, phX (.int .i64 (↑x26.length : Int)), phX (.bool (decide (x52 < (↑x26.length : Int)))), phX (.bool (decide (x52 < (↑x26.length : Int)))), phG (true && ((decide (x52 < (↑x26.length : Int))) == true)) (phX v13), phG (true && ((decide (x52 < (↑x26.length : Int))) == true)) (phX v30), phG (true && ((decide (x52 < (↑x26.length : Int))) == true)) (phX (.int .i64 x52)), phG (true && ((decide (x52 < (↑x26.length : Int))) == true)) ((fun u _ => OPtr (tInt .i64) v30 x26 u x52.toNat)), phG (true && ((decide (x52 < (↑x26.length : Int))) == true)) (phX (.int .i64 (ix x26 x52))), phG (true && ((decide (x52 < (↑x26.length : Int))) == true)) (phP (tSl false (tInt .i64)) (ix y7.1 (ix x26 x52))), phG (true && ((decide (x52 < (↑x26.length : Int))) == true)) (phR (tSl false (tInt .i64)) (ix y7.1 (ix x26 x52))), phG (true && ((decide (x52 < (↑x26.length : Int))) == true)) (phX v13), phG (true && ((decide (x52 < (↑x26.length : Int))) == true)) (phX (.int .i64 x27)), phG (true && ((decide (x52 < (↑x26.length : Int))) == true)) (phP (tSl false (tInt .i64)) (ix y7.1 x27)), phG (true && ((decide (x52 < (↑x26.length : Int))) == true)) (phR (tSl false (tInt .i64)) (ix y7.1 x27)), phG (true && ((decide (x52 < (↑x26.length : Int))) == true)) (phX (.int .i64 (y58.getD default))), phG (true && ((decide (x52 < (↑x26.length : Int))) == true)) (phX (.bool (decide ((y58.getD default) = 1)))), phX (.bool ((decide (x52 < (↑x26.length : Int))) && (decide ((y58.getD default) = 1))))] mixed (by kernel_rfl) (monoOk_of ⟨mono_x, mono_x, mono_x, mono_x, mono_x, (mono_g mono_x), (mono_g mono_x), (mono_g mono_x), (mono_g (fun _ _ _ _ h => h)), (mono_g mono_x), (mono_g mono_p), (mono_g mono_r), (mono_g mono_x), (mono_g mono_x), (mono_g mono_p), (mono_g mono_r), (mono_g mono_x), (mono_g mono_x), mono_x, trivial⟩) ⟨?_, ?_, ?_, ?_, ?_, ?_, ?_, ?_, ?_, ?_, ?_, ?_, ?_, ?_, ?_, ?_, ?_, ?_, ?_, trivial⟩ fun R60 le61 => ?_
            · intro l R0q hle ha hd
              have a7 : l 7 = (.int .i64 x52) := ha 7 rfl
              exact gstep_plain rfl rfl rfl (ph_val (val_move a7))
            · intro l R1q hle ha hd
              have a5 : l 5 = v30 := ha 5 rfl
              exact gstep_plain rfl rfl rfl (ph_val (val_move a5))
            · intro l R2q hle ha hd
              obtain ⟨d0, _⟩ := hd
              have f26 : l 26 = v30 := d0 rfl
              exact gstep_plain rfl rfl rfl (ph_val (val_lenO rfl Try.underlying36 f26 ((h32.mono le54).mono hle)))
            · intro l R3q hle ha hd
              obtain ⟨d0, d1, _⟩ := hd
              have f25 : l 25 = (.int .i64 x52) := d0 rfl
              have f27 : l 27 = (.int .i64 (↑x26.length : Int)) := d1 rfl
              exact gstep_plain rfl rfl rfl (ph_val (val_lss f25 f27))
            · intro l R4q hle ha hd
              obtain ⟨d0, _⟩ := hd
              have f28 : l 28 = (.bool (decide (x52 < (↑x26.length : Int)))) := d0 rfl
              exact gstep_plain rfl rfl rfl (ph_val (val_move f28))
            · intro l R5q hle ha hd
              obtain ⟨d0, _⟩ := hd
              have a3 : l 3 = v13 := ha 3 rfl
              exact gstep_guard (Gj := true) (Bj := decide (x52 < (↑x26.length : Int))) rfl rfl rfl (gtrue (d0 rfl)) rfl (fun hG hB => ph_val (val_move a3))
            · intro l R6q hle ha hd
              obtain ⟨d0, _⟩ := hd
              have a5 : l 5 = v30 := ha 5 rfl
              exact gstep_guard (Gj := true) (Bj := decide (x52 < (↑x26.length : Int))) rfl rfl rfl (gtrue (d0 rfl)) rfl (fun hG hB => ph_val (val_move a5))
            · intro l R7q hle ha hd
              obtain ⟨d0, _⟩ := hd
              have a7 : l 7 = (.int .i64 x52) := ha 7 rfl
              exact gstep_guard (Gj := true) (Bj := decide (x52 < (↑x26.length : Int))) rfl rfl rfl (gtrue (d0 rfl)) rfl (fun hG hB => ph_val (val_move a7))
            · intro l R8q hle ha hd
              obtain ⟨d0, d1, d2, _⟩ := hd
              have f31g : phG (true && ((decide (x52 < (↑x26.length : Int))) == true)) (phX v30) (l 31) R8q := d0 rfl
              have f32g : phG (true && ((decide (x52 < (↑x26.length : Int))) == true)) (phX (.int .i64 x52)) (l 32) R8q := d1 rfl
              exact gstep_guard (Gj := true) (Bj := decide (x52 < (↑x26.length : Int))) rfl rfl rfl (gtrue (d2 rfl)) rfl (fun hG hB => ph_indexO (i := x52.toNat) sl36 (show l 31 = v30 from f31g.1 (gandT rfl hB)) ((h32.mono le54).mono hle) (idx_nonneg (show l 32 = (.int .i64 x52) from f32g.1 (gandT rfl hB)) (g55 (gandT hG hB)).1) (okI_lt (g55 (gandT hG hB))))
            · intro l R9q hle ha hd
              obtain ⟨d0, d1, _⟩ := hd
              have f33g : phG (true && ((decide (x52 < (↑x26.length : Int))) == true)) ((fun u _ => OPtr (tInt .i64) v30 x26 u x52.toNat)) (l 33) R9q := d0 rfl
              exact gstep_guard (Gj := true) (Bj := decide (x52 < (↑x26.length : Int))) rfl rfl rfl (gtrue (d1 rfl)) rfl (fun hG hB => ph_exact (ph_loadO (i := x52.toNat) (j := 0) ty3 ((h32.mono le54).mono hle) rfl rfl (f33g.1 (gandT rfl hB)) (okI_lt (g55 (gandT hG hB)))) (fun _ _ h => vrep_int.1 h))
            · intro l R10q hle ha hd
              obtain ⟨d0, d1, d2, _⟩ := hd
              have f30g : phG (true && ((decide (x52 < (↑x26.length : Int))) == true)) (phX v13) (l 30) R10q := d0 rfl
              have f34g : phG (true && ((decide (x52 < (↑x26.length : Int))) == true)) (phX (.int .i64 (ix x26 x52))) (l 34) R10q := d1 rfl
              exact gstep_guard (Gj := true) (Bj := decide (x52 < (↑x26.length : Int))) rfl rfl rfl (gtrue (d2 rfl)) rfl (fun hG hB => ph_indexR (i := (ix x26 x52).toNat) sl29 (show l 30 = v13 from f30g.1 (gandT rfl hB)) (sl_s ((h14.mono (le29.trans le54)).mono hle)) (idx_nonneg (show l 34 = (.int .i64 (ix x26 x52)) from f34g.1 (gandT rfl hB)) (g56 (gandT hG hB)).1) (okI_lt (g56 (gandT hG hB))))
            · intro l R11q hle ha hd
              obtain ⟨d0, d1, _⟩ := hd
              have f35g : phG (true && ((decide (x52 < (↑x26.length : Int))) == true)) (phP (tSl false (tInt .i64)) (ix y7.1 (ix x26 x52))) (l 35) R11q := d0 rfl
              exact gstep_guard (Gj := true) (Bj := decide (x52 < (↑x26.length : Int))) rfl rfl rfl (gtrue (d1 rfl)) rfl (fun hG hB => ph_loadR ty36 rfl (f35g.1 (gandT rfl hB)))
            · intro l R12q hle ha hd
              obtain ⟨d0, _⟩ := hd
              have a3 : l 3 = v13 := ha 3 rfl
              exact gstep_guard (Gj := true) (Bj := decide (x52 < (↑x26.length : Int))) rfl rfl rfl (gtrue (d0 rfl)) rfl (fun hG hB => ph_val (val_move a3))
            · intro l R13q hle ha hd
              obtain ⟨d0, _⟩ := hd
              have a6 : l 6 = (.int .i64 x27) := ha 6 rfl
              exact gstep_guard (Gj := true) (Bj := decide (x52 < (↑x26.length : Int))) rfl rfl rfl (gtrue (d0 rfl)) rfl (fun hG hB => ph_val (val_move a6))
            · intro l R14q hle ha hd
              obtain ⟨d0, d1, d2, _⟩ := hd
              have f37g : phG (true && ((decide (x52 < (↑x26.length : Int))) == true)) (phX v13) (l 37) R14q := d0 rfl
              have f38g : phG (true && ((decide (x52 < (↑x26.length : Int))) == true)) (phX (.int .i64 x27)) (l 38) R14q := d1 rfl
              exact gstep_guard (Gj := true) (Bj := decide (x52 < (↑x26.length : Int))) rfl rfl rfl (gtrue (d2 rfl)) rfl (fun hG hB => ph_indexR (i := x27.toNat) sl29 (show l 37 = v13 from f37g.1 (gandT rfl hB)) (sl_s ((h14.mono (le29.trans le54)).mono hle)) (idx_nonneg (show l 38 = (.int .i64 x27) from f38g.1 (gandT rfl hB)) (g57 (gandT hG hB)).1) (okI_lt (g57 (gandT hG hB))))
            · intro l R15q hle ha hd
              obtain ⟨d0, d1, _⟩ := hd
              have f39g : phG (true && ((decide (x52 < (↑x26.length : Int))) == true)) (phP (tSl false (tInt .i64)) (ix y7.1 x27)) (l 39) R15q := d0 rfl
              exact gstep_guard (Gj := true) (Bj := decide (x52 < (↑x26.length : Int))) rfl rfl rfl (gtrue (d1 rfl)) rfl (fun hG hB => ph_loadR ty36 rfl (f39g.1 (gandT rfl hB)))
            · intro l R16q hle ha hd
              obtain ⟨d0, d1, d2, d3, _⟩ := hd
              have f36g : phG (true && ((decide (x52 < (↑x26.length : Int))) == true)) (phR (tSl false (tInt .i64)) (ix y7.1 (ix x26 x52))) (l 36) R16q := d0 rfl
              have f40g : phG (true && ((decide (x52 < (↑x26.length : Int))) == true)) (phR (tSl false (tInt .i64)) (ix y7.1 x27)) (l 40) R16q := d1 rfl
              exact gstep_guard (Gj := true) (Bj := decide (x52 < (↑x26.length : Int))) rfl rfl rfl (gtrue (d2 rfl)) rfl (fun hG hB => ph_callP (vs := [(l 36), (l 40)]) en66 rfl ((by have z := (gop_def c59 (gandT hG hB)); exact c_gauntletref06_less (f36g.1 (gandT rfl hB)) (f40g.1 (gandT rfl hB)) z)) (fun _ _ h => h))
            · intro l R17q hle ha hd
              obtain ⟨d0, d1, _⟩ := hd
              have f41g : phG (true && ((decide (x52 < (↑x26.length : Int))) == true)) (phX (.int .i64 (y58.getD default))) (l 41) R17q := d0 rfl
              exact gstep_guard (Gj := true) (Bj := decide (x52 < (↑x26.length : Int))) rfl rfl rfl (gtrue (d1 rfl)) rfl (fun hG hB => ph_val (val_eql (show l 41 = (.int .i64 (y58.getD default)) from f41g.1 (gandT rfl hB)) rfl))
            · intro l R18q hle ha hd
              obtain ⟨d0, d1, _⟩ := hd
              have f29 : l 29 = (.bool (decide (x52 < (↑x26.length : Int)))) := d0 rfl
              have f42g : phG (true && ((decide (x52 < (↑x26.length : Int))) == true)) (phX (.bool (decide ((y58.getD default) = 1)))) (l 42) R18q := d1 rfl
              exact gstep_plain rfl rfl rfl (ph_val (val_and f29 (fun hb => (show l 42 = (.bool (decide ((y58.getD default) = 1))) from f42g.1 (gandT rfl hb))) rfl))
            intro v62 h63
            intro v64 h65
            intro v66 h67
            intro v68 h69
            intro v70 h71
            intro v72 h73
            intro v74 h75
            intro v76 h77
            intro v78 h79
            intro v80 h81
            intro v82 h83
            intro v84 h85
            intro v86 h87
            intro v88 h89
            intro v90 h91
            intro v92 h93
            intro v94 h95
            intro v96 h97
            intro v98 h99
            obtain rfl := Eq.symm h63
            obtain rfl := Eq.symm h65
            obtain rfl := Eq.symm h67
            obtain rfl := Eq.symm h69
            obtain rfl := Eq.symm h71
            obtain rfl := Eq.symm h99
            refine wo_nil ?_
            refine wg_cond rfl (fun e100 => ?_) (fun e100 => ?_)
            · replace hd3 := sel_t e100 hd3; clear e100
              refine wg_skip ?_
              refine wg_block ?_
              refine wg_region ?_
              refine wo_v rfl (val_move (v := (.int .i64 x52)) rfl) ?_
              have g101 := (gd_some hd3).1; replace hd3 := (gd_some hd3).2
              refine wo_v rfl (val_add rfl rfl g101) ?_
              refine wo_v rfl (val_assign (v := (.int .i64 (x52 + 1))) rfl) ?_
              refine wo_nil ?_
              exact ⟨(fun _ => rfl), le61, (by repeat (first | exact off_self | refine off_upd rfl ?_ | refine off_setl rfl ?_ | refine off_mask_sub rfl ?_)), (F51, x52 + 1), Nat.lt_succ_self _, ⟨rfl, trivial⟩, ⟨[], List.Perm.refl _⟩, hd3, trivial⟩
            · replace hd3 := sel_f e100 hd3; clear e100
              refine wg_exit ?_
              exact ⟨(fun _ => rfl), (le54.trans le61), (by repeat (first | exact off_self | refine off_upd rfl ?_ | refine off_setl rfl ?_ | refine off_mask_sub rfl ?_)), x52, ⟨rfl, trivial⟩, ⟨[], List.Perm.refl _⟩, (Option.some.inj hd3).symm, trivial⟩
          ·
            rintro o48 j105 D106 R49 hD107 le50 ⟨rfl, _⟩
            obtain rfl := hD107 rfl
            refine wg_seq ?_
            refine wg_region ?_
            refine wo_v rfl (val_assign (v := (.slice none 0 0)) rfl) ?_
            refine wo_nil ?_
            refine wg_seq ?_
            refine wg_region ?_
            refine wo_v rfl (val_move (v := (.slice none 0 0)) rfl) ?_
            refine wo_v rfl (val_move (v := v30) rfl) ?_
            refine wo_v rfl (val_move (v := (.int .i64 o48)) rfl) ?_
            refine wo_freeze (i := 0) rfl (h32.mono le50) fun R108 le109 h110 => ?_
            have h111 : VRep (tSl false (tInt .i64)) R108 v30 x26 := (sl_f h110)
            have g115 := (gd_some hd2).1; replace hd2 := (gd_some hd2).2
            refine wo_sliceR (v := v30) (lo := (0 : Int).toNat) (hi := o48.toNat) (mx := (capOf v30)) rfl sl36 rfl (sl_s h111) (.inl ⟨rfl, rfl⟩) (.inr ⟨_, congrArg some (idx_nonneg rfl (okS_0 g115))⟩) (.inl ⟨rfl, rfl⟩) (okS_1 g115) (okS_2 g115) (Nat.le_trans (okS_2 g115) (capR (sl_s h111))) (Nat.le_refl _) (X' := (cut x26 0 o48)) rfl fun v112 h113 cap114 => ?_
            have h116 : VRep (tSl false (tInt .i64)) R108 v112 (cut x26 0 o48) := sl_f h113
            refine wo_emp ?_
            have g118 := (gd_some hd2).1; replace hd2 := (gd_some hd2).2
            refine wo_append (i := 0) (X := ([] : List Int)) (Y := (cut x26 0 o48)) rfl Try.underlying36 zo3 rfl rfl rfl (orep_emp (T := (tInt .i64))) (sl_s h116) g118.1 g118.2 fun v119 f120 h121 => ?_
            refine wo_v rfl (val_assign (v := v119) rfl) ?_
            refine wo_nil ?_
            refine wg_seq ?_
            refine wg_region ?_
            refine wo_v rfl (val_move (v := v119) rfl) ?_
            refine wo_v rfl (val_move (v := (.int .i64 x27)) rfl) ?_
            refine wo_lit (T := (tInt .i64)) (X := ([x27] : List Int)) (ps := [(0, (.int .i64 x27))]) (css := [[(.int .i64 x27)]]) rfl Try.underlying36 zo3 rfl rfl (lit_reps ⟨rfl, trivial⟩) rfl rfl (by decide) fun v122 f123 cap124 h125 => ?_
            refine wo_freeze (i := 0) rfl h125 fun R127 le128 h129 => ?_
            have h130 : VRep (tSl true (tInt .i64)) R127 v122 ([x27] : List Int) := (sl_t h129 cap124)
            have g131 := (gd_some hd2).1; replace hd2 := (gd_some hd2).2
            refine wo_append (i := 0) (X := (([] : List Int) ++ (cut x26 0 o48))) (Y := ([x27] : List Int)) rfl Try.underlying36 zo3 rfl rfl rfl (h121.mono le128) (sl_s (Sub.v (B := (tSl false (tInt .i64))) (sub_sl Sub.refl (fun _ => rfl)) h130)) g131.1 g131.2 fun v132 f133 h134 => ?_
            refine wo_v rfl (val_assign (v := v132) rfl) ?_
            refine wo_nil ?_
            refine wg_region ?_
            refine wo_v rfl (val_move (v := v132) rfl) ?_
            refine wo_v rfl (val_move (v := v30) rfl) ?_
            refine wo_v rfl (val_move (v := (.int .i64 o48)) rfl) ?_
            have g138 := (gd_some hd2).1; replace hd2 := (gd_some hd2).2
            refine wo_sliceR (v := v30) (lo := o48.toNat) (hi := (↑x26.length : Int).toNat) (mx := (capOf v30)) rfl sl36 rfl (sl_s (h111.mono le128)) (.inr ⟨_, congrArg some (idx_nonneg rfl g138.1)⟩) (.inl ⟨rfl, rfl, rfl⟩) (.inl ⟨rfl, rfl⟩) (okS_1 g138) (okS_2 g138) (Nat.le_trans (okS_2 g138) (capR (sl_s (h111.mono le128)))) (Nat.le_refl _) (X' := (cut x26 o48 (↑x26.length : Int))) rfl fun v135 h136 cap137 => ?_
            have h139 : VRep (tSl false (tInt .i64)) R127 v135 (cut x26 o48 (↑x26.length : Int)) := sl_f h136
            have g140 := (gd_some hd2).1; replace hd2 := (gd_some hd2).2
            refine wo_append (i := 0) (X := ((([] : List Int) ++ (cut x26 0 o48)) ++ ([x27] : List Int))) (Y := (cut x26 o48 (↑x26.length : Int))) rfl Try.underlying36 zo3 rfl rfl rfl h134 (sl_s h139) g140.1 g140.2 fun v141 f142 h143 => ?_
            refine wo_v rfl (val_assign (v := v141) rfl) ?_
            refine wo_nil ?_
            exact ⟨(fun _ => rfl), ((le50.trans le109).trans le128), (by repeat (first | exact off_self | refine off_upd rfl ?_ | refine off_setl rfl ?_ | refine off_mask_sub rfl ?_)), ((((([] : List Int) ++ (cut x26 0 o48)) ++ ([x27] : List Int)) ++ (cut x26 o48 (↑x26.length : Int))), v141, f142), ⟨rfl, trivial⟩, ⟨[], List.Perm.refl _⟩, (Option.some.inj hd2).symm, h143, trivial⟩
      ·
        rintro ⟨o35, v38, f39⟩ j144 D145 R36 hD146 le37 ⟨rfl, h40, _⟩
        obtain rfl := hD146 rfl
        refine wg_region ?_
        refine wo_v rfl (val_move (v := (.int .i64 x27)) rfl) ?_
        have g147 := (gd_some hd1).1; replace hd1 := (gd_some hd1).2
        refine wo_v rfl (val_add rfl rfl g147) ?_
        refine wo_v rfl (val_assign (v := (.int .i64 (x27 + 1))) rfl) ?_
        refine wo_nil ?_
        exact ⟨(fun _ => rfl), le37, (by repeat (first | exact off_self | refine off_upd rfl ?_ | refine off_setl rfl ?_ | refine off_mask_sub rfl ?_)), (F25, o35, x27 + 1, v38, f39), Nat.lt_succ_self _, ⟨rfl, rfl, trivial⟩, ⟨[], List.Perm.refl _⟩, hd1, h40, trivial⟩
    · replace hd1 := sel_f e34 hd1; clear e34
      refine wg_exit ?_
      exact ⟨(fun _ => rfl), le29, (by repeat (first | exact off_self | refine off_upd rfl ?_ | refine off_setl rfl ?_ | refine off_mask_sub rfl ?_)), (x26, v30, f31), ⟨rfl, trivial⟩, ⟨[], List.Perm.refl _⟩, (Option.some.inj hd1).symm, h32, trivial⟩
  ·
    rintro ⟨o17, v20, f21⟩ j151 D152 R18 hD153 le19 ⟨rfl, h22, _⟩
    obtain rfl := hD153 rfl
    refine wg_seq ?_
    refine wg_region ?_
    refine wo_v rfl (val_move (v := v20) rfl) ?_
    refine wo_v rfl (val_assign (v := v20) rfl) ?_
    refine wo_nil ?_
    refine wg_freeze (i := 0) rfl h22 fun R154 le155 h156 => ?_
    have h157 : VRep (tSl false (tInt .i64)) R154 v20 o17 := (sl_f h156)
    refine wg_ret ?_
    obtain rfl := Option.some.inj hd0
    refine body_end (D := []) (J := []) (rs := [.tmp 2]) (vs := [v20]) (((le4.trans le12).trans le19).trans le155) rfl rfl ⟨rfl, trivial⟩ ?_
    exact ⟨rfl, h157⟩
theorem en49 : Enters Try.prog 49 := enters_of Try.func49 rfl (by kernel_rfl)
theorem c_gauntletref06_Canonical {N : Nat} {R : RH} {m : Mach} {v_m : Value} (h_m : VRep (kMach false false) R v_m m) {r : Mach} (hd0 : gauntletref06_Canonical N m = some r) : CallP Try.prog 29 #[v_m] R (fun v R' => VRep (kMach false false) R' v r) := by
  refine callP_of_wg (args := [v_m]) Try.func29 rfl rfl fun A => ?_
  rw [gauntletref06_Canonical] at hd0
  refine wg_seq ?_
  refine wg_region ?_
  refine wo_boxR (T := (kMach false false)) rfl rfl h_m fun v1 R3 le4 h2 => ?_
  refine wo_alloc rfl za27 fun b5 => ?_
  refine wo_nil ?_
  refine wg_seq ?_
  replace hd0 := bd_some hd0; obtain ⟨y7, c8, hd0⟩ := hd0
  replace hd0 := bd_some hd0; obtain ⟨y9, c10, hd0⟩ := hd0
  refine wg_drawn 4 [] [phR (kMach false false) m, phR (kMach false false) m, phR (tSl false (tInt .i64)) y7, phR (kMach false false) y9] mixed (by kernel_rfl) (monoOk_of ⟨mono_r, mono_r, mono_r, mono_r, trivial⟩) ⟨?_, ?_, ?_, ?_, trivial⟩ fun R11 le12 => ?_
  · intro l R0q hle ha hd
    have a1 : l 1 = v1 := ha 1 rfl
    exact gstep_plain rfl rfl rfl (ph_loadR ty27 a1 (h2.mono hle))
  · intro l R1q hle ha hd
    have a1 : l 1 = v1 := ha 1 rfl
    exact gstep_plain rfl rfl rfl (ph_loadR ty27 a1 (h2.mono hle))
  · intro l R2q hle ha hd
    obtain ⟨d0, _⟩ := hd
    have f4 : phR (kMach false false) m (l 4) R2q := d0 rfl
    exact gstep_plain rfl rfl rfl (ph_callP (vs := [(l 4)]) en49 rfl (c_gauntletref06_Order f4 c8) (fun _ _ h => h))
  · intro l R3q hle ha hd
    obtain ⟨d0, d1, d2, _⟩ := hd
    have f3 : phR (kMach false false) m (l 3) R3q := d0 rfl
    have f5 : phR (tSl false (tInt .i64)) y7 (l 5) R3q := d1 rfl
    exact gstep_plain rfl rfl rfl (ph_callP (vs := [(l 3), (l 5)]) en25 rfl (c_gauntletref06_Part f3 f5 c10) (fun _ _ h => h))
  intro v13 h14
  intro v15 h16
  intro v17 h18
  intro v19 h20
  obtain ⟨v21, rfl, h22⟩ := cases_Mach h20
  refine wo_store (i := 0) (vs := [(.int .i64 y9.inputs), (.int .i64 y9.outputs), v21]) sz27 rfl rfl rfl rfl rfl rfl (one_cons rfl (one_cons rfl (one_cons (sl_one h22) one_nil))) ?_
  refine wo_nil ?_
  refine wg_ret ?_
  obtain rfl := Option.some.inj hd0
  refine body_end (D := []) (J := [box b5 [(.int .i64 y9.inputs), (.int .i64 y9.outputs), v21] 27]) (rs := [.cell 2 27]) (vs := [(.agg #[(.int .i64 y9.inputs), (.int .i64 y9.outputs), v21])]) (le4.trans le12) rfl rfl ⟨⟨_, rfl, fun w hh => run_cellA (i := 0) hh rfl rfl ag27 sz27 rfl rfl⟩, trivial⟩ ?_
  exact ⟨rfl, (⟨_, ⟨_, _, rfl, rfl, ⟨_, _, rfl, rfl, (rep_one rfl h22)⟩⟩, rfl⟩ : VRep (kMach false false) _ _ (⟨y9.inputs, y9.outputs, y9.rows⟩ : Mach))⟩
theorem en29 : Enters Try.prog 29 := enters_of Try.func29 rfl (by kernel_rfl)
end GV
end Go.Proofs.Ytncblcdhmcmkmaa
