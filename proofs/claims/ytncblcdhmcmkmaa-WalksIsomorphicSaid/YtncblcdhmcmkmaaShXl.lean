/- The walks of the functions; printed. -/
import Derived.Test.YtncblcdhmcmkmaaShWe
import Derived.Test.YtncblcdhmcmkmaaShXa
import Derived.Test.YtncblcdhmcmkmaaShXb
import Derived.Test.YtncblcdhmcmkmaaShXc
import Derived.Test.YtncblcdhmcmkmaaShXe
import Derived.Test.YtncblcdhmcmkmaaShXg
import Derived.Test.YtncblcdhmcmkmaaRows
namespace Go.Proofs.Ytncblcdhmcmkmaa
namespace GV
open Go.IntWalk
set_option linter.unusedVariables false
set_option linter.unusedSimpArgs false
set_option maxRecDepth 100000
set_option maxHeartbeats 20000000
theorem ar70 : ArrOk Try.prog 70 2 1 := arrOk_of (e := 5) Try.underlying70 (fun w => by kernel_rfl)
theorem c_gauntletlaw06_WalksIsomorphic {N : Nat} {R : RH} {x : MDat} {v_x : Value} (h_x : VRep (kMDat false) R v_x x) {y : MDat} {v_y : Value} (h_y : VRep (kMDat false) R v_y y) {swap : (Int × Int)} {r : Bool} (hd0 : gauntletlaw06_WalksIsomorphic N x y swap = some r) : CallP Try.prog 7 #[v_x, v_y, (enc_A2tIntu8 swap)] R (fun v R' => v = (.bool r)) := by
  refine callP_of_wg (args := [v_x, v_y, (enc_A2tIntu8 swap)]) Try.func7 rfl rfl fun A => ?_
  rw [gauntletlaw06_WalksIsomorphic] at hd0
  refine wg_seq ?_
  refine wg_region ?_
  refine wo_boxR (T := (kMDat false)) rfl rfl h_x fun v1 R3 le4 h2 => ?_
  refine wo_boxR (T := (kMDat false)) rfl rfl (h_y.mono le4) fun v5 R7 le8 h6 => ?_
  refine wo_boxR (T := kA2tIntu8) rfl rfl (vrep_A2tIntu8.2 rfl) fun v9 R11 le12 h10 => ?_
  refine wo_v rfl (val_assign (v := (.bool false)) rfl) ?_
  refine wo_nil ?_
  refine wg_seq ?_
  replace hd0 := bd_some hd0; obtain ⟨y13, c14, hd0⟩ := hd0
  replace hd0 := bd_some hd0; obtain ⟨y15, c16, hd0⟩ := hd0
  refine wg_drawn 6 [⟨4, [.int .i64 0, .int .i64 0, .slice none 0 0], 27⟩, ⟨5, [.int .i64 0, .int .i64 0, .slice none 0 0], 27⟩] [phR (kMDat false) x, phR (kMach false false) y13, phR (kMDat false) y, phR (kMach false false) y15, phB, phB] mixed (by kernel_rfl) (monoOk_of ⟨mono_r, mono_r, mono_r, mono_r, mono_b, mono_b, trivial⟩) ⟨?_, ?_, ?_, ?_, ?_, ?_, trivial⟩ fun R17 le18 => ?_
  · intro l R0q hle ha hd
    have a3 : l 3 = v1 := ha 3 rfl
    exact gstep_plain rfl rfl rfl (ph_loadR ty24 a3 ((h2.mono (le8.trans le12)).mono hle))
  · intro l R1q hle ha hd
    obtain ⟨d0, _⟩ := hd
    have f21 : phR (kMDat false) x (l 21) R1q := d0 rfl
    exact gstep_plain rfl rfl rfl (ph_callP (vs := [(l 21)]) en11 rfl (c_gauntletlaw04_M_Of f21 c14) (fun _ _ h => h))
  · intro l R2q hle ha hd
    have a4 : l 4 = v5 := ha 4 rfl
    exact gstep_plain rfl rfl rfl (ph_loadR ty24 a4 ((h6.mono le12).mono hle))
  · intro l R3q hle ha hd
    obtain ⟨d0, d1, _⟩ := hd
    have f23 : phR (kMDat false) y (l 23) R3q := d0 rfl
    exact gstep_plain rfl rfl rfl (ph_callP (vs := [(l 23)]) en11 rfl (c_gauntletlaw04_M_Of f23 c16) (fun _ _ h => h))
  · intro l R4q hle ha hd
    exact gstep_new rfl rfl rfl rfl za27
  · intro l R5q hle ha hd
    exact gstep_new rfl rfl rfl rfl za27
  intro v19 h20
  intro v21 h22
  intro v23 h24
  intro v25 h26
  intro v27 h28
  intro v29 h30
  obtain ⟨b31, rfl⟩ := h28
  obtain ⟨b32, rfl⟩ := h30
  obtain ⟨v35, rfl, h36⟩ := cases_Mach h22
  refine wo_store (i := 0) (vs := [(.int .i64 y13.inputs), (.int .i64 y13.outputs), v35]) sz27 rfl rfl rfl rfl rfl rfl (one_cons rfl (one_cons rfl (one_cons (sl_one h36) one_nil))) ?_
  obtain ⟨v37, rfl, h38⟩ := cases_Mach h26
  refine wo_store (i := 1) (vs := [(.int .i64 y15.inputs), (.int .i64 y15.outputs), v37]) sz27 rfl rfl rfl rfl rfl rfl (one_cons rfl (one_cons rfl (one_cons (sl_one h38) one_nil))) ?_
  refine wo_nil ?_
  replace hd0 := bd_some hd0; obtain ⟨o39, hd1, hd0⟩ := hd0
  refine wg_meet (γ := (Int × Int × (List (List Edge))) × Value) true [25, 26, 27, 28, 29, 30, 31, 32, 33, 34, 9, 10, 35, 36, 37, 38, 39, 42, 43, 44, 45, 40, 41, 46, 47, 48, 49, 50, 51, 52, 53, 54, 55, 56, 57, 58, 59, 60, 61, 11, 12, 62, 63, 64, 65, 66, 67, 68, 69, 70, 71, 72, 73, 74, 75, 76, 77, 78] (fun g => []) (fun g => [box b31 [(.int .i64 y13.inputs), (.int .i64 y13.outputs), v35] 27, box b32 [(.int .i64 g.1.1), (.int .i64 g.1.2.1), g.2] 27] ++ A) (fun g R => o39 = g.1 ∧ VRep (tSl false (tSl false kEdge)) R g.2 g.1.2.2 ∧ True) ?_ ?_
  ·
    refine wg_seq ?_
    have g44 := (gd_some hd1).1; replace hd1 := (gd_some hd1).2
    refine wg_guarded 10 [] [phP (tInt .u8) swap.1, phX (.int .u8 swap.1), phX (.int .u8 (swap.1 % 2)), phX (.bool (decide ((swap.1 % 2) = 0))), phX (.bool (decide ((swap.1 % 2) = 0))), phG (true && ((decide ((swap.1 % 2) = 0)) == true)) (phX (.pointer (some ⟨b31, 2, none⟩))), phG (true && ((decide ((swap.1 % 2) = 0)) == true)) (phX v35), phG (true && ((decide ((swap.1 % 2) = 0)) == true)) (phX (.int .i64 (↑y13.rows.length : Int))), phG (true && ((decide ((swap.1 % 2) = 0)) == true)) (phX (.bool (decide (1 < (↑y13.rows.length : Int))))), phX (.bool ((decide ((swap.1 % 2) = 0)) && (decide (1 < (↑y13.rows.length : Int)))))] (by kernel_rfl) (by kernel_rfl) (monoOk_of ⟨mono_p, mono_x, mono_x, mono_x, mono_x, (mono_g mono_x), (mono_g mono_x), (mono_g mono_x), (mono_g mono_x), mono_x, trivial⟩) ⟨?_, ?_, ?_, ?_, ?_, ?_, ?_, ?_, ?_, ?_, trivial⟩ fun R45 le46 => ?_
    · intro l R0q hle ha hd
      have a5 : l 5 = v9 := ha 5 rfl
      exact gstep_plain rfl rfl rfl (ph_indexAR (i := 0) ar70 pt_A2tIntu80 a5 ((h10.mono le18).mono hle) rfl (by decide))
    · intro l R1q hle ha hd
      obtain ⟨d0, _⟩ := hd
      have f25 : phP (tInt .u8) swap.1 (l 25) R1q := d0 rfl
      exact gstep_plain rfl rfl rfl (ph_exact (ph_loadR ty5 rfl f25) (fun _ _ h => vrep_int.1 h))
    · intro l R2q hle ha hd
      obtain ⟨d0, _⟩ := hd
      have f26 : l 26 = (.int .u8 swap.1) := d0 rfl
      exact gstep_plain rfl rfl rfl (ph_val (val_rem0 f26 rfl g44))
    · intro l R3q hle ha hd
      obtain ⟨d0, _⟩ := hd
      have f27 : l 27 = (.int .u8 (swap.1 % 2)) := d0 rfl
      exact gstep_plain rfl rfl rfl (ph_val (val_eql f27 rfl))
    · intro l R4q hle ha hd
      obtain ⟨d0, _⟩ := hd
      have f28 : l 28 = (.bool (decide ((swap.1 % 2) = 0))) := d0 rfl
      exact gstep_plain rfl rfl rfl (ph_val (val_move f28))
    · intro l R5q hle ha hd
      obtain ⟨d0, _⟩ := hd
      have a7 : l 7 = (.pointer (some ⟨b31, 0, none⟩)) := ha 7 rfl
      exact gstep_guard (Gj := true) (Bj := decide ((swap.1 % 2) = 0)) rfl rfl rfl (gtrue (d0 rfl)) rfl (fun hG hB => ph_val (val_fieldB fd27_2 a7))
    · intro l R6q hle ha hd
      obtain ⟨d0, d1, _⟩ := hd
      have f30g : phG (true && ((decide ((swap.1 % 2) = 0)) == true)) (phX (.pointer (some ⟨b31, 2, none⟩))) (l 30) R6q := d0 rfl
      exact gstep_guard (Gj := true) (Bj := decide ((swap.1 % 2) = 0)) rfl rfl rfl (gtrue (d1 rfl)) rfl (fun hG hB => ph_val (val_loadB (i := 0) ag25 (show l 30 = (.pointer (some ⟨b31, 2, none⟩)) from f30g.1 (gandT rfl hB)) rfl rfl))
    · intro l R7q hle ha hd
      obtain ⟨d0, d1, _⟩ := hd
      have f31g : phG (true && ((decide ((swap.1 % 2) = 0)) == true)) (phX v35) (l 31) R7q := d0 rfl
      exact gstep_guard (Gj := true) (Bj := decide ((swap.1 % 2) = 0)) rfl rfl rfl (gtrue (d1 rfl)) rfl (fun hG hB => ph_val (val_lenR rfl Try.underlying25 (show l 31 = v35 from f31g.1 (gandT rfl hB)) (sl_s (h36.mono hle))))
    · intro l R8q hle ha hd
      obtain ⟨d0, d1, _⟩ := hd
      have f32g : phG (true && ((decide ((swap.1 % 2) = 0)) == true)) (phX (.int .i64 (↑y13.rows.length : Int))) (l 32) R8q := d0 rfl
      exact gstep_guard (Gj := true) (Bj := decide ((swap.1 % 2) = 0)) rfl rfl rfl (gtrue (d1 rfl)) rfl (fun hG hB => ph_val (val_gtr (show l 32 = (.int .i64 (↑y13.rows.length : Int)) from f32g.1 (gandT rfl hB)) rfl))
    · intro l R9q hle ha hd
      obtain ⟨d0, d1, _⟩ := hd
      have f29 : l 29 = (.bool (decide ((swap.1 % 2) = 0))) := d0 rfl
      have f33g : phG (true && ((decide ((swap.1 % 2) = 0)) == true)) (phX (.bool (decide (1 < (↑y13.rows.length : Int))))) (l 33) R9q := d1 rfl
      exact gstep_plain rfl rfl rfl (ph_val (val_and f29 (fun hb => (show l 33 = (.bool (decide (1 < (↑y13.rows.length : Int)))) from f33g.1 (gandT rfl hb))) rfl))
    intro v47 h48
    intro v49 h50
    intro v51 h52
    intro v53 h54
    intro v55 h56
    intro v57 h58
    intro v59 h60
    intro v61 h62
    intro v63 h64
    intro v65 h66
    obtain rfl := Eq.symm h50
    obtain rfl := Eq.symm h52
    obtain rfl := Eq.symm h54
    obtain rfl := Eq.symm h56
    obtain rfl := Eq.symm h66
    refine wo_nil ?_
    refine wg_cond rfl (fun e67 => ?_) (fun e67 => ?_)
    · replace hd1 := sel_t e67 hd1; clear e67
      refine wg_seq ?_
      refine wg_region ?_
      refine wo_v rfl (val_assign (v := (.slice none 0 0)) rfl) ?_
      refine wo_nil ?_
      replace hd1 := bd_some hd1; obtain ⟨o68, hd2, hd1⟩ := hd1
      refine wg_meet (γ := (List Int) × Value × Frag) true [10, 35, 36, 37, 38, 39, 42, 43, 44, 45, 9, 40, 41] (fun g => [(9, g.2.1)]) (fun g => [box b31 [(.int .i64 y13.inputs), (.int .i64 y13.outputs), v35] 27, box b32 [(.int .i64 y15.inputs), (.int .i64 y15.outputs), v37] 27, g.2.2] ++ A) (fun g R => o68 = g.1 ∧ ORep (tInt .i64) R g.2.2 g.2.1 g.1 ∧ True) ?_ ?_
      ·
        refine wg_seq ?_
        refine wg_region ?_
        refine wo_v rfl (val_assign (v := (.int .i64 0)) rfl) ?_
        refine wo_nil ?_
        refine wg_block ?_
        refine wg_emp ?_
        refine wg_loopS (γ := Nat × (List Int) × Int × Value × Frag) true [35, 36, 37, 38, 39, 42, 43, 44, 45, 9, 40, 41, 10] (fun g => [(9, g.2.2.2.1), (10, (.int .i64 g.2.2.1))]) (fun g => [box b31 [(.int .i64 y13.inputs), (.int .i64 y13.outputs), v35] 27, box b32 [(.int .i64 y15.inputs), (.int .i64 y15.outputs), v37] 27, g.2.2.2.2] ++ A) (fun g R => gauntletlaw06_WalksIsomorphic_L1 N y13 g.1 g.2.1 g.2.2.1 = some o68 ∧ ORep (tInt .i64) R g.2.2.2.2 g.2.2.2.1 g.2.1 ∧ True) (fun g => g.1) (N, ([] : List Int), 0, (.slice none 0 0), emp) ⟨rfl, rfl, trivial⟩ ⟨[], (pk 1 rfl (pk 1 rfl (pk 0 rfl (List.Perm.refl _))))⟩ ⟨hd2, (orep_emp (T := (tInt .i64))), trivial⟩ (fun _ => rfl) ?_
        clear hd2
        rintro ⟨F76, x77, x78, v81, f82⟩ j100 D101 R79 hD102 le80 ⟨hd2, h83, _⟩
        obtain rfl := hD102 rfl
        rcases F76 with _ | F76
        · exact none_elim hd2
        replace hd2 : gauntletlaw06_WalksIsomorphic_L1 N y13 (F76 + 1) x77 x78 = some o68 := hd2; rw [gauntletlaw06_WalksIsomorphic_L1] at hd2
        refine wg_seq ?_
        refine wg_seq ?_
        refine wg_region ?_
        refine wo_v rfl (val_move (v := (.int .i64 x78)) rfl) ?_
        refine wo_v rfl (val_fieldB fd27_2 rfl) ?_
        refine wo_v rfl (val_loadB (i := 0) ag25 rfl rfl rfl) ?_
        refine wo_v rfl (val_lenR rfl Try.underlying25 rfl (sl_s (h36.mono (le46.trans le80)))) ?_
        refine wo_v rfl (val_lss rfl rfl) ?_
        refine wo_nil ?_
        refine wg_cond rfl (fun e85 => ?_) (fun e85 => ?_)
        · replace hd2 := sel_t e85 hd2; clear e85
          refine wg_skip ?_
          refine wg_seq ?_
          refine wg_block ?_
          refine wg_region ?_
          refine wo_v rfl (val_move (v := v81) rfl) ?_
          refine wo_v rfl (val_move (v := (.int .i64 x78)) rfl) ?_
          refine wo_lit (T := (tInt .i64)) (X := ([x78] : List Int)) (ps := [(0, (.int .i64 x78))]) (css := [[(.int .i64 x78)]]) rfl Try.underlying36 zo3 rfl rfl (lit_reps ⟨rfl, trivial⟩) rfl rfl (by decide) fun v86 f87 cap88 h89 => ?_
          refine wo_freeze (i := 0) rfl h89 fun R91 le92 h93 => ?_
          have h94 : VRep (tSl true (tInt .i64)) R91 v86 ([x78] : List Int) := (sl_t h93 cap88)
          have g95 := (gd_some hd2).1; replace hd2 := (gd_some hd2).2
          refine wo_append (i := 2) (X := x77) (Y := ([x78] : List Int)) rfl Try.underlying36 zo3 rfl rfl rfl (h83.mono le92) (sl_s (Sub.v (B := (tSl false (tInt .i64))) (sub_sl Sub.refl (fun _ => rfl)) h94)) g95.1 g95.2 fun v96 f97 h98 => ?_
          refine wo_v rfl (val_assign (v := v96) rfl) ?_
          refine wo_nil ?_
          refine wg_region ?_
          refine wo_v rfl (val_move (v := (.int .i64 x78)) rfl) ?_
          have g99 := (gd_some hd2).1; replace hd2 := (gd_some hd2).2
          refine wo_v rfl (val_add rfl rfl g99) ?_
          refine wo_v rfl (val_assign (v := (.int .i64 (x78 + 1))) rfl) ?_
          refine wo_nil ?_
          exact ⟨(fun _ => rfl), le92, (by repeat (first | exact off_self | refine off_upd rfl ?_ | refine off_setl rfl ?_ | refine off_mask_sub rfl ?_)), (F76, (x77 ++ ([x78] : List Int)), x78 + 1, v96, f97), Nat.lt_succ_self _, ⟨rfl, rfl, trivial⟩, ⟨[], List.Perm.refl _⟩, hd2, h98, trivial⟩
        · replace hd2 := sel_f e85 hd2; clear e85
          refine wg_exit ?_
          exact ⟨(fun _ => rfl), le80, (by repeat (first | exact off_self | refine off_upd rfl ?_ | refine off_setl rfl ?_ | refine off_mask_sub rfl ?_)), (x77, v81, f82), ⟨rfl, trivial⟩, ⟨[], List.Perm.refl _⟩, (Option.some.inj hd2).symm, h83, trivial⟩
      ·
        rintro ⟨o68, v71, f72⟩ j103 D104 R69 hD105 le70 ⟨rfl, h73, _⟩
        obtain rfl := hD105 rfl
        refine wg_seq ?_
        have g106 := (gd_some hd1).1; replace hd1 := (gd_some hd1).2
        have g107 := (gd_some hd1).1; replace hd1 := (gd_some hd1).2
        have g108 := (gd_some hd1).1; replace hd1 := (gd_some hd1).2
        have g109 := (gd_some hd1).1; replace hd1 := (gd_some hd1).2
        have g110 := (gd_some hd1).1; replace hd1 := (gd_some hd1).2
        have g111 := (gd_some hd1).1; replace hd1 := (gd_some hd1).2
        have g112 := (gd_some hd1).1; replace hd1 := (gd_some hd1).2
        have g113 := (gd_some hd1).1; replace hd1 := (gd_some hd1).2
        refine wg_drawn 18 [] [phP (tInt .u8) swap.1, phX (.int .u8 swap.1), phX (.int .i64 swap.1), phX v71, phX (.int .i64 (↑o68.length : Int)), phX (.int .i64 ((↑o68.length : Int) - 1)), phX (.int .i64 (swap.1 % ((↑o68.length : Int) - 1))), phX (.int .i64 ((1 : Int) + (swap.1 % ((↑o68.length : Int) - 1)))), phP (tInt .u8) swap.2, phX (.int .u8 swap.2), phX (.int .i64 swap.2), phX v71, phX (.int .i64 (↑o68.length : Int)), phX (.int .i64 ((↑o68.length : Int) - 1)), phX (.int .i64 (swap.2 % ((↑o68.length : Int) - 1))), phX (.int .i64 ((1 : Int) + (swap.2 % ((↑o68.length : Int) - 1)))), phX (.int .i64 ((1 : Int) + (swap.1 % ((↑o68.length : Int) - 1)))), phX (.int .i64 ((1 : Int) + (swap.2 % ((↑o68.length : Int) - 1))))] mixed (by kernel_rfl) (monoOk_of ⟨mono_p, mono_x, mono_x, mono_x, mono_x, mono_x, mono_x, mono_x, mono_p, mono_x, mono_x, mono_x, mono_x, mono_x, mono_x, mono_x, mono_x, mono_x, trivial⟩) ⟨?_, ?_, ?_, ?_, ?_, ?_, ?_, ?_, ?_, ?_, ?_, ?_, ?_, ?_, ?_, ?_, ?_, ?_, trivial⟩ fun R114 le115 => ?_
        · intro l R0q hle ha hd
          have a5 : l 5 = v9 := ha 5 rfl
          exact gstep_plain rfl rfl rfl (ph_indexAR (i := 0) ar70 pt_A2tIntu80 a5 ((h10.mono ((le18.trans le46).trans le70)).mono hle) rfl (by decide))
        · intro l R1q hle ha hd
          obtain ⟨d0, _⟩ := hd
          have f46 : phP (tInt .u8) swap.1 (l 46) R1q := d0 rfl
          exact gstep_plain rfl rfl rfl (ph_exact (ph_loadR ty5 rfl f46) (fun _ _ h => vrep_int.1 h))
        · intro l R2q hle ha hd
          obtain ⟨d0, _⟩ := hd
          have f47 : l 47 = (.int .u8 swap.1) := d0 rfl
          exact gstep_plain rfl rfl rfl (ph_val (val_conv64 Try.underlying5 Try.underlying3 f47 g106))
        · intro l R3q hle ha hd
          have a9 : l 9 = v71 := ha 9 rfl
          exact gstep_plain rfl rfl rfl (ph_val (val_move a9))
        · intro l R4q hle ha hd
          obtain ⟨d0, _⟩ := hd
          have f49 : l 49 = v71 := d0 rfl
          exact gstep_plain rfl rfl rfl (ph_val (val_lenO rfl Try.underlying36 f49 (h73.mono hle)))
        · intro l R5q hle ha hd
          obtain ⟨d0, _⟩ := hd
          have f50 : l 50 = (.int .i64 (↑o68.length : Int)) := d0 rfl
          exact gstep_plain rfl rfl rfl (ph_val (val_sub f50 rfl g107))
        · intro l R6q hle ha hd
          obtain ⟨d0, d1, _⟩ := hd
          have f48 : l 48 = (.int .i64 swap.1) := d0 rfl
          have f51 : l 51 = (.int .i64 ((↑o68.length : Int) - 1)) := d1 rfl
          exact gstep_plain rfl rfl rfl (ph_val (val_rem0 f48 f51 g108))
        · intro l R7q hle ha hd
          obtain ⟨d0, _⟩ := hd
          have f52 : l 52 = (.int .i64 (swap.1 % ((↑o68.length : Int) - 1))) := d0 rfl
          exact gstep_plain rfl rfl rfl (ph_val (val_add rfl f52 g109))
        · intro l R8q hle ha hd
          obtain ⟨d0, _⟩ := hd
          have a5 : l 5 = v9 := ha 5 rfl
          exact gstep_plain rfl rfl rfl (ph_indexAR (i := 1) ar70 pt_A2tIntu81 a5 ((h10.mono ((le18.trans le46).trans le70)).mono hle) rfl (by decide))
        · intro l R9q hle ha hd
          obtain ⟨d0, d1, _⟩ := hd
          have f54 : phP (tInt .u8) swap.2 (l 54) R9q := d0 rfl
          exact gstep_plain rfl rfl rfl (ph_exact (ph_loadR ty5 rfl f54) (fun _ _ h => vrep_int.1 h))
        · intro l R10q hle ha hd
          obtain ⟨d0, d1, _⟩ := hd
          have f55 : l 55 = (.int .u8 swap.2) := d0 rfl
          exact gstep_plain rfl rfl rfl (ph_val (val_conv64 Try.underlying5 Try.underlying3 f55 g110))
        · intro l R11q hle ha hd
          have a9 : l 9 = v71 := ha 9 rfl
          exact gstep_plain rfl rfl rfl (ph_val (val_move a9))
        · intro l R12q hle ha hd
          obtain ⟨d0, _⟩ := hd
          have f57 : l 57 = v71 := d0 rfl
          exact gstep_plain rfl rfl rfl (ph_val (val_lenO rfl Try.underlying36 f57 (h73.mono hle)))
        · intro l R13q hle ha hd
          obtain ⟨d0, d1, _⟩ := hd
          have f58 : l 58 = (.int .i64 (↑o68.length : Int)) := d0 rfl
          exact gstep_plain rfl rfl rfl (ph_val (val_sub f58 rfl g111))
        · intro l R14q hle ha hd
          obtain ⟨d0, d1, d2, _⟩ := hd
          have f56 : l 56 = (.int .i64 swap.2) := d0 rfl
          have f59 : l 59 = (.int .i64 ((↑o68.length : Int) - 1)) := d1 rfl
          exact gstep_plain rfl rfl rfl (ph_val (val_rem0 f56 f59 g112))
        · intro l R15q hle ha hd
          obtain ⟨d0, d1, _⟩ := hd
          have f60 : l 60 = (.int .i64 (swap.2 % ((↑o68.length : Int) - 1))) := d0 rfl
          exact gstep_plain rfl rfl rfl (ph_val (val_add rfl f60 g113))
        · intro l R16q hle ha hd
          obtain ⟨d0, d1, d2, d3, d4, d5, d6, d7, d8, d9, d10, d11, d12, d13, d14, d15, d16, _⟩ := hd
          have f53 : l 53 = (.int .i64 ((1 : Int) + (swap.1 % ((↑o68.length : Int) - 1)))) := d0 rfl
          exact gstep_plain rfl rfl rfl (ph_val (val_assign f53))
        · intro l R17q hle ha hd
          obtain ⟨d0, d1, d2, d3, d4, d5, d6, d7, d8, d9, d10, d11, d12, d13, d14, d15, d16, d17, d18, _⟩ := hd
          have f61 : l 61 = (.int .i64 ((1 : Int) + (swap.2 % ((↑o68.length : Int) - 1)))) := d0 rfl
          exact gstep_plain rfl rfl rfl (ph_val (val_assign f61))
        intro v116 h117
        intro v118 h119
        intro v120 h121
        intro v122 h123
        intro v124 h125
        intro v126 h127
        intro v128 h129
        intro v130 h131
        intro v132 h133
        intro v134 h135
        intro v136 h137
        intro v138 h139
        intro v140 h141
        intro v142 h143
        intro v144 h145
        intro v146 h147
        intro v148 h149
        intro v150 h151
        obtain rfl := Eq.symm h119
        obtain rfl := Eq.symm h121
        obtain rfl := Eq.symm h123
        obtain rfl := Eq.symm h125
        obtain rfl := Eq.symm h127
        obtain rfl := Eq.symm h129
        obtain rfl := Eq.symm h131
        obtain rfl := Eq.symm h135
        obtain rfl := Eq.symm h137
        obtain rfl := Eq.symm h139
        obtain rfl := Eq.symm h141
        obtain rfl := Eq.symm h143
        obtain rfl := Eq.symm h145
        obtain rfl := Eq.symm h147
        obtain rfl := Eq.symm h149
        obtain rfl := Eq.symm h151
        refine wo_nil ?_
        refine wg_seq ?_
        have g152 := (gd_some hd1).1; replace hd1 := (gd_some hd1).2
        have g153 := (gd_some hd1).1; replace hd1 := (gd_some hd1).2
        have g154 := (gd_some hd1).1; replace hd1 := (gd_some hd1).2
        have g155 := (gd_some hd1).1; replace hd1 := (gd_some hd1).2
        refine wg_free [13, 15] [(fun es => phX v71), (fun es => phX (.int .i64 ((1 : Int) + (swap.1 % ((↑o68.length : Int) - 1))))), (fun es => phX v71), (fun es => phX (.int .i64 ((1 : Int) + (swap.2 % ((↑o68.length : Int) - 1))))), (fun es => phX v71), (fun es => phX (.int .i64 ((1 : Int) + (swap.2 % ((↑o68.length : Int) - 1))))), (fun es => (fun u _ => OPtr (tInt .i64) v71 o68 u ((1 : Int) + (swap.2 % ((↑o68.length : Int) - 1))).toNat)), (fun es => phX (.int .i64 (ix o68 ((1 : Int) + (swap.2 % ((↑o68.length : Int) - 1)))))), (fun es => phX v71), (fun es => phX (.int .i64 ((1 : Int) + (swap.1 % ((↑o68.length : Int) - 1))))), (fun es => (fun u _ => OPtr (tInt .i64) v71 o68 u ((1 : Int) + (swap.1 % ((↑o68.length : Int) - 1))).toNat)), (fun es => phX (.int .i64 (ix o68 ((1 : Int) + (swap.1 % ((↑o68.length : Int) - 1)))))), (fun es => (fun u _ => OPtr (tInt .i64) v71 o68 u ((1 : Int) + (swap.1 % ((↑o68.length : Int) - 1))).toNat)), (fun es => (fun _ _ => True)), (fun es => (fun u _ => OPtr (tInt .i64) v71 o68 u ((1 : Int) + (swap.2 % ((↑o68.length : Int) - 1))).toNat)), (fun es => (fun _ _ => True))] (fun fl es R O => (fl = [false, false] ∧ O.Perm ([box b31 [(.int .i64 y13.inputs), (.int .i64 y13.outputs), v35] 27, box b32 [(.int .i64 y15.inputs), (.int .i64 y15.outputs), v37] 27, f72] ++ A) ∧ True) ∨ (fl = [true, false] ∧ ∃ (f_o74 : Frag), O.Perm ([box b31 [(.int .i64 y13.inputs), (.int .i64 y13.outputs), v35] 27, box b32 [(.int .i64 y15.inputs), (.int .i64 y15.outputs), v37] 27, f_o74] ++ A) ∧ ORep (tInt .i64) R f_o74 v71 (up o68 ((1 : Int) + (swap.1 % ((↑o68.length : Int) - 1))) (ix o68 ((1 : Int) + (swap.2 % ((↑o68.length : Int) - 1))))) ∧ True) ∨ (fl = [true, true] ∧ ∃ (f_o74 : Frag), O.Perm ([box b31 [(.int .i64 y13.inputs), (.int .i64 y13.outputs), v35] 27, box b32 [(.int .i64 y15.inputs), (.int .i64 y15.outputs), v37] 27, f_o74] ++ A) ∧ ORep (tInt .i64) R f_o74 v71 (up (up o68 ((1 : Int) + (swap.1 % ((↑o68.length : Int) - 1))) (ix o68 ((1 : Int) + (swap.2 % ((↑o68.length : Int) - 1))))) ((1 : Int) + (swap.2 % ((↑o68.length : Int) - 1))) (ix o68 ((1 : Int) + (swap.1 % ((↑o68.length : Int) - 1))))) ∧ True)) mixed (by kernel_rfl) ⟨(monoE_of mono_x), (monoE_of mono_x), (monoE_of mono_x), (monoE_of mono_x), (monoE_of mono_x), (monoE_of mono_x), (monoE_of (fun _ _ _ _ h => h)), (monoE_of mono_x), (monoE_of mono_x), (monoE_of mono_x), (monoE_of (fun _ _ _ _ h => h)), (monoE_of mono_x), (monoE_of (fun _ _ _ _ h => h)), (fun _ _ _ _ _ h => h), (monoE_of (fun _ _ _ _ h => h)), (fun _ _ _ _ _ h => h), trivial⟩ (by
            rintro fl es R R' O hle (⟨rfl, hp, _⟩ | ⟨rfl, f_o74, hp, h_o74, _⟩ | ⟨rfl, f_o74, hp, h_o74, _⟩)
            · exact (.inl ⟨rfl, hp, trivial⟩)
            · exact (.inr (.inl ⟨rfl, f_o74, hp, (h_o74.mono hle), trivial⟩))
            · exact (.inr (.inr ⟨rfl, f_o74, hp, (h_o74.mono hle), trivial⟩))) ⟨(fun _ _ _ _ _ h => h), (fun _ _ _ _ _ h => h), (fun _ _ _ _ _ h => h), (fun _ _ _ _ _ h => h), (fun _ _ _ _ _ h => h), (fun _ _ _ _ _ h => h), (fun _ _ _ _ _ h => h), (fun _ _ _ _ _ h => h), (fun _ _ _ _ _ h => h), (fun _ _ _ _ _ h => h), (fun _ _ _ _ _ h => h), (fun _ _ _ _ _ h => h), (fun _ _ _ _ _ h => h), (fun _ _ _ _ _ h => h), (fun _ _ _ _ _ h => h), (fun _ _ _ _ _ h => h), trivial⟩ (fun es => .inl ⟨rfl, (List.Perm.refl _), trivial⟩) ⟨?_, ?_, ?_, ?_, ?_, ?_, ?_, ?_, ?_, ?_, ?_, ?_, ?_, ?_, ?_, ?_, trivial⟩ fun R156 le157 => ?_
        · intro l R0q fl O hle ha hd hk hW
          have a9 : l 9 = v71 := ha 9 rfl
          exact ph_val (val_move a9)
        · intro l R1q fl O hle ha hd hk hW
          have a11 : l 11 = (.int .i64 ((1 : Int) + (swap.1 % ((↑o68.length : Int) - 1)))) := ha 11 rfl
          exact ph_val (val_move a11)
        · intro l R2q fl O hle ha hd hk hW
          obtain ⟨d0, _⟩ := hd
          have a9 : l 9 = v71 := ha 9 rfl
          exact ph_val (val_move a9)
        · intro l R3q fl O hle ha hd hk hW
          obtain ⟨d0, _⟩ := hd
          have a12 : l 12 = (.int .i64 ((1 : Int) + (swap.2 % ((↑o68.length : Int) - 1)))) := ha 12 rfl
          exact ph_val (val_move a12)
        · intro l R4q fl O hle ha hd hk hW
          have a9 : l 9 = v71 := ha 9 rfl
          exact ph_val (val_move a9)
        · intro l R5q fl O hle ha hd hk hW
          have a12 : l 12 = (.int .i64 ((1 : Int) + (swap.2 % ((↑o68.length : Int) - 1)))) := ha 12 rfl
          exact ph_val (val_move a12)
        · intro l R6q fl O hle ha hd hk hW
          obtain ⟨d0, d1, _⟩ := hd
          have f66 : l 66 = v71 := d0 rfl
          have f67 : l 67 = (.int .i64 ((1 : Int) + (swap.2 % ((↑o68.length : Int) - 1)))) := d1 rfl
          exact ph_indexO (i := ((1 : Int) + (swap.2 % ((↑o68.length : Int) - 1))).toNat) sl36 f66 ((h73.mono le115).mono hle) (idx_nonneg f67 g152.1) (okI_lt g152)
        · intro l R7q fl O hle ha hd hk hW
          obtain ⟨d0, _⟩ := hd
          have f68 : (fun u _ => OPtr (tInt .i64) v71 o68 u ((1 : Int) + (swap.2 % ((↑o68.length : Int) - 1))).toNat) (l 68) R7q := d0 rfl
          rcases hW with ⟨rfl, hp, _⟩ | ⟨rfl, f_o74, hp, h_o74, _⟩ | ⟨rfl, f_o74, hp, h_o74, _⟩
          · exact eff_permP hp (ph_exact (ph_loadO (i := ((1 : Int) + (swap.2 % ((↑o68.length : Int) - 1))).toNat) (j := 2) ty3 ((h73.mono le115).mono hle) rfl rfl f68 (okI_lt g152)) (fun _ _ h => vrep_int.1 h))
          · exact kn_no hk (by kernel_rfl)
          · exact kn_no hk (by kernel_rfl)
        · intro l R8q fl O hle ha hd hk hW
          have a9 : l 9 = v71 := ha 9 rfl
          exact ph_val (val_move a9)
        · intro l R9q fl O hle ha hd hk hW
          have a11 : l 11 = (.int .i64 ((1 : Int) + (swap.1 % ((↑o68.length : Int) - 1)))) := ha 11 rfl
          exact ph_val (val_move a11)
        · intro l R10q fl O hle ha hd hk hW
          obtain ⟨d0, d1, _⟩ := hd
          have f70 : l 70 = v71 := d0 rfl
          have f71 : l 71 = (.int .i64 ((1 : Int) + (swap.1 % ((↑o68.length : Int) - 1)))) := d1 rfl
          exact ph_indexO (i := ((1 : Int) + (swap.1 % ((↑o68.length : Int) - 1))).toNat) sl36 f70 ((h73.mono le115).mono hle) (idx_nonneg f71 g153.1) (okI_lt g153)
        · intro l R11q fl O hle ha hd hk hW
          obtain ⟨d0, _⟩ := hd
          have f72 : (fun u _ => OPtr (tInt .i64) v71 o68 u ((1 : Int) + (swap.1 % ((↑o68.length : Int) - 1))).toNat) (l 72) R11q := d0 rfl
          rcases hW with ⟨rfl, hp, _⟩ | ⟨rfl, f_o74, hp, h_o74, _⟩ | ⟨rfl, f_o74, hp, h_o74, _⟩
          · exact eff_permP hp (ph_exact (ph_loadO (i := ((1 : Int) + (swap.1 % ((↑o68.length : Int) - 1))).toNat) (j := 2) ty3 ((h73.mono le115).mono hle) rfl rfl f72 (okI_lt g153)) (fun _ _ h => vrep_int.1 h))
          · exact kn_no hk (by kernel_rfl)
          · exact kn_no hk (by kernel_rfl)
        · intro l R12q fl O hle ha hd hk hW
          obtain ⟨d0, d1, d2, d3, d4, d5, d6, d7, d8, d9, d10, d11, d12, d13, _⟩ := hd
          have f62 : l 62 = v71 := d0 rfl
          have f63 : l 63 = (.int .i64 ((1 : Int) + (swap.1 % ((↑o68.length : Int) - 1)))) := d1 rfl
          exact ph_indexO (i := ((1 : Int) + (swap.1 % ((↑o68.length : Int) - 1))).toNat) sl36 f62 ((h73.mono le115).mono hle) (idx_nonneg f63 g154.1) (okI_lt g154)
        · intro l R13q fl O hle ha hd hk hf hW
          obtain ⟨d0, d1, d2, d3, d4, d5, d6, d7, d8, d9, d10, d11, d12, d13, _⟩ := hd
          have f74 : (fun u _ => OPtr (tInt .i64) v71 o68 u ((1 : Int) + (swap.1 % ((↑o68.length : Int) - 1))).toNat) (l 74) R13q := d0 rfl
          have f69 : l 69 = (.int .i64 (ix o68 ((1 : Int) + (swap.2 % ((↑o68.length : Int) - 1))))) := d1 rfl
          rcases hW with ⟨rfl, hp, _⟩ | ⟨rfl, f_o74, hp, h_o74, _⟩ | ⟨rfl, f_o74, hp, h_o74, _⟩
          · refine eff_perm hp ?_
            refine Eff.mono (free_storeO (i := ((1 : Int) + (swap.1 % ((↑o68.length : Int) - 1))).toNat) (j := 2) ty3 ((h73.mono le115).mono hle) rfl rfl f74 (okI_lt g154) f69 (vrep_int.2 rfl)) ?_
            rintro v R' O' hle' ⟨rfl, f, rfl, ho⟩
            exact ⟨trivial, .inr (.inl ⟨rfl, f, (List.Perm.refl _), ho, trivial⟩)⟩
          · cases hf
          · cases hf
        · intro l R14q fl O hle ha hd hk hW
          obtain ⟨d0, d1, d2, d3, d4, d5, d6, d7, d8, d9, d10, d11, d12, d13, d14, d15, _⟩ := hd
          have f64 : l 64 = v71 := d0 rfl
          have f65 : l 65 = (.int .i64 ((1 : Int) + (swap.2 % ((↑o68.length : Int) - 1)))) := d1 rfl
          exact ph_indexO (i := ((1 : Int) + (swap.2 % ((↑o68.length : Int) - 1))).toNat) sl36 f64 ((h73.mono le115).mono hle) (idx_nonneg f65 g155.1) (okI_lt g155)
        · intro l R15q fl O hle ha hd hk hf hW
          obtain ⟨d0, d1, d2, d3, d4, d5, d6, d7, d8, d9, d10, d11, d12, d13, d14, d15, d16, _⟩ := hd
          have f75 : (fun u _ => OPtr (tInt .i64) v71 o68 u ((1 : Int) + (swap.2 % ((↑o68.length : Int) - 1))).toNat) (l 75) R15q := d0 rfl
          have f73 : l 73 = (.int .i64 (ix o68 ((1 : Int) + (swap.1 % ((↑o68.length : Int) - 1))))) := d1 rfl
          rcases hW with ⟨rfl, hp, _⟩ | ⟨rfl, f_o74, hp, h_o74, _⟩ | ⟨rfl, f_o74, hp, h_o74, _⟩
          · exact kn_no hk (by kernel_rfl)
          · refine eff_perm hp ?_
            refine Eff.mono (free_storeO (i := ((1 : Int) + (swap.2 % ((↑o68.length : Int) - 1))).toNat) (j := 2) ty3 h_o74 rfl rfl (optr_set f75) (by rw [up, List.length_set]; exact okI_lt g155) f73 (vrep_int.2 rfl)) ?_
            rintro v R' O' hle' ⟨rfl, f, rfl, ho⟩
            exact ⟨trivial, .inr (.inr ⟨rfl, f, (List.Perm.refl _), ho, trivial⟩)⟩
          · cases hf
        intro v158
        intro v159
        intro v160
        intro v161
        intro v162
        intro v163
        intro v164
        intro v165
        intro v166
        intro v167
        intro v168
        intro v169
        intro v170
        intro v171
        intro h172
        intro h173
        intro h174
        intro h175
        intro h176
        intro h177
        intro h178
        intro h179
        intro h180
        intro h181
        intro h182
        intro h183
        intro h184
        intro h185
        rintro OO186 (⟨e, _⟩ | ⟨e, _⟩ | ⟨_, f187, hp, h188, _⟩)
        · cases e
        · cases e
        refine ⟨[], _, hp, ?_⟩
        replace h188 : ORep (tInt .i64) R156 f187 v71 (up (up o68 ((1 : Int) + (swap.1 % ((↑o68.length : Int) - 1))) (ix o68 ((1 : Int) + (swap.2 % ((↑o68.length : Int) - 1))))) ((1 : Int) + (swap.2 % ((↑o68.length : Int) - 1))) (ix o68 ((1 : Int) + (swap.1 % ((↑o68.length : Int) - 1))))) := h188
        obtain rfl := Eq.symm h172
        obtain rfl := Eq.symm h173
        obtain rfl := Eq.symm h174
        obtain rfl := Eq.symm h175
        obtain rfl := Eq.symm h176
        obtain rfl := Eq.symm h177
        obtain rfl := Eq.symm h179
        obtain rfl := Eq.symm h180
        obtain rfl := Eq.symm h181
        obtain rfl := Eq.symm h183
        refine wo_nil ?_
        refine wg_region ?_
        refine wo_v rfl (val_loadBA (i := 0) ag27 sz27 rfl rfl rfl rfl) ?_
        refine wo_v rfl (val_move (v := v71) rfl) ?_
        refine wo_freeze (i := 2) rfl h188 fun R190 le191 h192 => ?_
        have h193 : VRep (tSl false (tInt .i64)) R190 v71 (up (up o68 ((1 : Int) + (swap.1 % ((↑o68.length : Int) - 1))) (ix o68 ((1 : Int) + (swap.2 % ((↑o68.length : Int) - 1))))) ((1 : Int) + (swap.2 % ((↑o68.length : Int) - 1))) (ix o68 ((1 : Int) + (swap.1 % ((↑o68.length : Int) - 1))))) := (sl_f h192)
        replace hd1 := bd_some hd1; obtain ⟨y194, c195, hd1⟩ := hd1
        refine wo_callP rfl en25 rfl (c_gauntletref06_Part (⟨_, ⟨_, _, rfl, rfl, ⟨_, _, rfl, rfl, (rep_one rfl (h36.mono ((((le46.trans le70).trans le115).trans le157).trans le191)))⟩⟩, rfl⟩ : VRep (kMach false false) _ _ (⟨y13.inputs, y13.outputs, y13.rows⟩ : Mach)) h193 c195) fun v196 R198 le199 h197 => ?_
        obtain ⟨v200, rfl, h201⟩ := cases_Mach h197
        refine wo_store (i := 1) (vs := [(.int .i64 y194.inputs), (.int .i64 y194.outputs), v200]) sz27 rfl rfl rfl rfl rfl rfl (one_cons rfl (one_cons rfl (one_cons (sl_one h201) one_nil))) ?_
        refine wo_nil ?_
        exact ⟨(fun _ => rfl), (((((le46.trans le70).trans le115).trans le157).trans le191).trans le199), (by repeat (first | exact off_self | refine off_upd rfl ?_ | refine off_setl rfl ?_ | refine off_mask_sub rfl ?_)), ((y194.inputs, y194.outputs, y194.rows), v200), trivial, ⟨[], List.Perm.refl _⟩, (Option.some.inj hd1).symm, h201, trivial⟩
    · replace hd1 := sel_f e67 hd1; clear e67
      refine wg_skip ?_
      exact ⟨(fun _ => rfl), le46, (by repeat (first | exact off_self | refine off_upd rfl ?_ | refine off_setl rfl ?_ | refine off_mask_sub rfl ?_)), ((y15.inputs, y15.outputs, y15.rows), v37), trivial, ⟨[], List.Perm.refl _⟩, (Option.some.inj hd1).symm, (h38.mono le46), trivial⟩
  ·
    rintro ⟨o39, v42⟩ j202 D203 R40 hD204 le41 ⟨rfl, h43, _⟩
    obtain rfl := hD204 rfl
    refine wg_seq ?_
    refine wg_region ?_
    refine wo_v rfl (val_loadBA (i := 0) ag27 sz27 rfl rfl rfl rfl) ?_
    refine wo_v rfl (val_loadBA (i := 1) ag27 sz27 rfl rfl rfl rfl) ?_
    replace hd0 := bd_some hd0; obtain ⟨y205, c206, hd0⟩ := hd0
    refine wo_callP rfl en32 rfl (c_walks_Isomorphic (⟨_, ⟨_, _, rfl, rfl, ⟨_, _, rfl, rfl, (rep_one rfl (h36.mono le41))⟩⟩, rfl⟩ : VRep (kMach false false) _ _ (⟨y13.inputs, y13.outputs, y13.rows⟩ : Mach)) (⟨_, ⟨_, _, rfl, rfl, ⟨_, _, rfl, rfl, (rep_one rfl h43)⟩⟩, rfl⟩ : VRep (kMach false false) _ _ (⟨o39.1, o39.2.1, o39.2.2⟩ : Mach)) c206) fun v207 R209 le210 h208 => ?_
    obtain ⟨v211, rfl, h212⟩ := h208
    refine wo_v rfl (val_move (v := (.tuple #[v211, (.bool y205.2.1), (.int .i64 y205.2.2)])) rfl) ?_
    refine wo_v rfl (val_extract rfl rfl) ?_
    refine wo_v rfl (val_extract rfl rfl) ?_
    refine wo_v rfl (val_extract rfl rfl) ?_
    refine wo_v rfl (val_assign (v := v211) rfl) ?_
    refine wo_v rfl (val_assign (v := (.bool y205.2.1)) rfl) ?_
    refine wo_v rfl (val_assign (v := (.int .i64 y205.2.2)) rfl) ?_
    refine wo_nil ?_
    refine wg_seq ?_
    replace hd0 := bd_some hd0; obtain ⟨y213, c214, hd0⟩ := hd0
    replace hd0 := bd_some hd0; obtain ⟨y215, c216, hd0⟩ := hd0
    replace hd0 := bd_some hd0; obtain ⟨y217, c218, hd0⟩ := hd0
    refine wg_drawn 6 [] [phX (.agg #[(.int .i64 y13.inputs), (.int .i64 y13.outputs), v35]), phR (kMach false false) y213, phX (.agg #[(.int .i64 o39.1), (.int .i64 o39.2.1), v42]), phR (kMach false false) y215, phX (.bool y217), phX (.bool y217)] mixed (by kernel_rfl) (monoOk_of ⟨mono_x, mono_r, mono_x, mono_r, mono_x, mono_x, trivial⟩) ⟨?_, ?_, ?_, ?_, ?_, ?_, trivial⟩ fun R219 le220 => ?_
    · intro l R0q hle ha hd
      have a7 : l 7 = (.pointer (some ⟨b31, 0, none⟩)) := ha 7 rfl
      exact gstep_plain rfl rfl rfl (ph_val (val_loadBA (i := 0) ag27 sz27 a7 rfl rfl rfl))
    · intro l R1q hle ha hd
      obtain ⟨d0, _⟩ := hd
      have f86 : l 86 = (.agg #[(.int .i64 y13.inputs), (.int .i64 y13.outputs), v35]) := d0 rfl
      exact gstep_plain rfl rfl rfl (ph_callP (vs := [(.agg #[(.int .i64 y13.inputs), (.int .i64 y13.outputs), v35])]) en29 (by simp only [List.map, ev, f86] <;> rfl) (c_gauntletref06_Canonical (⟨_, ⟨_, _, rfl, rfl, ⟨_, _, rfl, rfl, (rep_one rfl ((h36.mono (le41.trans le210)).mono hle))⟩⟩, rfl⟩ : VRep (kMach false false) _ _ (⟨y13.inputs, y13.outputs, y13.rows⟩ : Mach)) c214) (fun _ _ h => h))
    · intro l R2q hle ha hd
      have a8 : l 8 = (.pointer (some ⟨b32, 0, none⟩)) := ha 8 rfl
      exact gstep_plain rfl rfl rfl (ph_val (val_loadBA (i := 1) ag27 sz27 a8 rfl rfl rfl))
    · intro l R3q hle ha hd
      obtain ⟨d0, d1, _⟩ := hd
      have f88 : l 88 = (.agg #[(.int .i64 o39.1), (.int .i64 o39.2.1), v42]) := d0 rfl
      exact gstep_plain rfl rfl rfl (ph_callP (vs := [(.agg #[(.int .i64 o39.1), (.int .i64 o39.2.1), v42])]) en29 (by simp only [List.map, ev, f88] <;> rfl) (c_gauntletref06_Canonical (⟨_, ⟨_, _, rfl, rfl, ⟨_, _, rfl, rfl, (rep_one rfl ((h43.mono le210).mono hle))⟩⟩, rfl⟩ : VRep (kMach false false) _ _ (⟨o39.1, o39.2.1, o39.2.2⟩ : Mach)) c216) (fun _ _ h => h))
    · intro l R4q hle ha hd
      obtain ⟨d0, d1, d2, _⟩ := hd
      have f87 : phR (kMach false false) y213 (l 87) R4q := d0 rfl
      have f89 : phR (kMach false false) y215 (l 89) R4q := d1 rfl
      exact gstep_plain rfl rfl rfl (ph_callP (vs := [(l 87), (l 89)]) en31 rfl (c_gauntletref04_Same f87 f89 c218) (fun _ _ h => h))
    · intro l R5q hle ha hd
      obtain ⟨d0, d1, d2, d3, d4, d5, d6, _⟩ := hd
      have f90 : l 90 = (.bool y217) := d0 rfl
      exact gstep_plain rfl rfl rfl (ph_val (val_assign f90))
    intro v221 h222
    intro v223 h224
    intro v225 h226
    intro v227 h228
    intro v229 h230
    intro v231 h232
    obtain rfl := Eq.symm h222
    obtain rfl := Eq.symm h226
    obtain rfl := Eq.symm h230
    obtain rfl := Eq.symm h232
    refine wo_nil ?_
    refine wg_seq ?_
    refine wg_seq ?_
    refine wg_guarded 7 [] [phX (.int .i64 y205.2.2), phX (.bool (decide (y205.2.2 ≠ 0))), phX (.bool (decide (y205.2.2 ≠ 0))), phG (true && ((decide (y205.2.2 ≠ 0)) == false)) (phX (.bool y205.2.1)), phG (true && ((decide (y205.2.2 ≠ 0)) == false)) (phX (.bool y217)), phG (true && ((decide (y205.2.2 ≠ 0)) == false)) (phX (.bool (decide (y205.2.1 ≠ y217)))), phX (.bool ((decide (y205.2.2 ≠ 0)) || (decide (y205.2.1 ≠ y217))))] (by kernel_rfl) (by kernel_rfl) (monoOk_of ⟨mono_x, mono_x, mono_x, (mono_g mono_x), (mono_g mono_x), (mono_g mono_x), mono_x, trivial⟩) ⟨?_, ?_, ?_, ?_, ?_, ?_, ?_, trivial⟩ fun R233 le234 => ?_
    · intro l R0q hle ha hd
      have a15 : l 15 = (.int .i64 y205.2.2) := ha 15 rfl
      exact gstep_plain rfl rfl rfl (ph_val (val_move a15))
    · intro l R1q hle ha hd
      obtain ⟨d0, _⟩ := hd
      have f91 : l 91 = (.int .i64 y205.2.2) := d0 rfl
      exact gstep_plain rfl rfl rfl (ph_val (val_neq f91 rfl))
    · intro l R2q hle ha hd
      obtain ⟨d0, _⟩ := hd
      have f92 : l 92 = (.bool (decide (y205.2.2 ≠ 0))) := d0 rfl
      exact gstep_plain rfl rfl rfl (ph_val (val_move f92))
    · intro l R3q hle ha hd
      obtain ⟨d0, _⟩ := hd
      have a14 : l 14 = (.bool y205.2.1) := ha 14 rfl
      exact gstep_guard (Gj := true) (Bj := decide (y205.2.2 ≠ 0)) rfl rfl rfl (gtrue (d0 rfl)) rfl (fun hG hB => ph_val (val_move a14))
    · intro l R4q hle ha hd
      obtain ⟨d0, _⟩ := hd
      have a16 : l 16 = (.bool y217) := ha 16 rfl
      exact gstep_guard (Gj := true) (Bj := decide (y205.2.2 ≠ 0)) rfl rfl rfl (gtrue (d0 rfl)) rfl (fun hG hB => ph_val (val_move a16))
    · intro l R5q hle ha hd
      obtain ⟨d0, d1, d2, _⟩ := hd
      have f94g : phG (true && ((decide (y205.2.2 ≠ 0)) == false)) (phX (.bool y205.2.1)) (l 94) R5q := d0 rfl
      have f95g : phG (true && ((decide (y205.2.2 ≠ 0)) == false)) (phX (.bool y217)) (l 95) R5q := d1 rfl
      exact gstep_guard (Gj := true) (Bj := decide (y205.2.2 ≠ 0)) rfl rfl rfl (gtrue (d2 rfl)) rfl (fun hG hB => ph_val (val_neqB Try.underlying4 (show l 94 = (.bool y205.2.1) from f94g.1 (gandT rfl hB)) (show l 95 = (.bool y217) from f95g.1 (gandT rfl hB))))
    · intro l R6q hle ha hd
      obtain ⟨d0, d1, _⟩ := hd
      have f93 : l 93 = (.bool (decide (y205.2.2 ≠ 0))) := d0 rfl
      have f96g : phG (true && ((decide (y205.2.2 ≠ 0)) == false)) (phX (.bool (decide (y205.2.1 ≠ y217)))) (l 96) R6q := d1 rfl
      exact gstep_plain rfl rfl rfl (ph_val (val_or f93 rfl (fun hb => (show l 96 = (.bool (decide (y205.2.1 ≠ y217))) from f96g.1 (gandT rfl hb)))))
    intro v235 h236
    intro v237 h238
    intro v239 h240
    intro v241 h242
    intro v243 h244
    intro v245 h246
    intro v247 h248
    obtain rfl := Eq.symm h236
    obtain rfl := Eq.symm h238
    obtain rfl := Eq.symm h240
    obtain rfl := Eq.symm h248
    refine wo_nil ?_
    refine wg_cond rfl (fun e249 => ?_) (fun e249 => ?_)
    · replace hd0 := sel_t e249 hd0; clear e249
      refine wg_seq ?_
      refine wg_region ?_
      refine wo_v rfl (val_assign (v := (.bool false)) rfl) ?_
      refine wo_nil ?_
      refine wg_ret ?_
      obtain rfl := Option.some.inj hd0
      refine body_end (D := []) (J := [box b31 [(.int .i64 y13.inputs), (.int .i64 y13.outputs), v35] 27, box b32 [(.int .i64 o39.1), (.int .i64 o39.2.1), v42] 27]) (rs := [.tmp 6]) (vs := [(.bool false)]) (((((((le4.trans le8).trans le12).trans le18).trans le41).trans le210).trans le220).trans le234) rfl rfl ⟨rfl, trivial⟩ ?_
      exact ⟨rfl, rfl⟩
    · replace hd0 := sel_f e249 hd0; clear e249
      refine wg_skip ?_
      refine wg_seq ?_
      refine wg_seq ?_
      refine wg_region ?_
      refine wo_v rfl (val_move (v := (.bool y217)) rfl) ?_
      refine wo_v rfl (val_not rfl) ?_
      refine wo_nil ?_
      refine wg_cond rfl (fun e250 => ?_) (fun e250 => ?_)
      · replace hd0 := sel_t e250 hd0; clear e250
        refine wg_seq ?_
        replace hd0 := bd_some hd0; obtain ⟨y251, c252, hd0⟩ := hd0
        refine wg_guarded 7 [] [phX v211, phX (.int .i64 (↑y205.1.length : Int)), phX (.bool (decide ((↑y205.1.length : Int) = 0))), phX (.bool (decide ((↑y205.1.length : Int) = 0))), phG (true && ((decide ((↑y205.1.length : Int) = 0)) == true)) (phX (.bool (y251.getD default))), phX (.bool ((decide ((↑y205.1.length : Int) = 0)) && (y251.getD default))), phX (.bool ((decide ((↑y205.1.length : Int) = 0)) && (y251.getD default)))] (by kernel_rfl) (by kernel_rfl) (monoOk_of ⟨mono_x, mono_x, mono_x, mono_x, (mono_g mono_x), mono_x, mono_x, trivial⟩) ⟨?_, ?_, ?_, ?_, ?_, ?_, ?_, trivial⟩ fun R253 le254 => ?_
        · intro l R0q hle ha hd
          have a13 : l 13 = v211 := ha 13 rfl
          exact gstep_plain rfl rfl rfl (ph_val (val_move a13))
        · intro l R1q hle ha hd
          obtain ⟨d0, _⟩ := hd
          have f100 : l 100 = v211 := d0 rfl
          exact gstep_plain rfl rfl rfl (ph_val (val_lenR rfl Try.underlying36 f100 (sl_s ((h212.mono (le220.trans le234)).mono hle))))
        · intro l R2q hle ha hd
          obtain ⟨d0, _⟩ := hd
          have f101 : l 101 = (.int .i64 (↑y205.1.length : Int)) := d0 rfl
          exact gstep_plain rfl rfl rfl (ph_val (val_eql f101 rfl))
        · intro l R3q hle ha hd
          obtain ⟨d0, _⟩ := hd
          have f102 : l 102 = (.bool (decide ((↑y205.1.length : Int) = 0))) := d0 rfl
          exact gstep_plain rfl rfl rfl (ph_val (val_move f102))
        · intro l R4q hle ha hd
          obtain ⟨d0, d1, _⟩ := hd
          exact gstep_guard (Gj := true) (Bj := decide ((↑y205.1.length : Int) = 0)) rfl rfl rfl (gtrue (d0 rfl)) rfl (fun hG hB => ph_callP (vs := []) en18 rfl ((by have z := (gop_def c252 (gandT hG hB)); exact c_gauntletlaw06_lives  z)) (fun _ _ h => h))
        · intro l R5q hle ha hd
          obtain ⟨d0, d1, _⟩ := hd
          have f103 : l 103 = (.bool (decide ((↑y205.1.length : Int) = 0))) := d0 rfl
          have f104g : phG (true && ((decide ((↑y205.1.length : Int) = 0)) == true)) (phX (.bool (y251.getD default))) (l 104) R5q := d1 rfl
          exact gstep_plain rfl rfl rfl (ph_val (val_and f103 (fun hb => (show l 104 = (.bool (y251.getD default)) from f104g.1 (gandT rfl hb))) rfl))
        · intro l R6q hle ha hd
          obtain ⟨d0, d1, d2, d3, d4, d5, d6, d7, _⟩ := hd
          have f105 : l 105 = (.bool ((decide ((↑y205.1.length : Int) = 0)) && (y251.getD default))) := d0 rfl
          exact gstep_plain rfl rfl rfl (ph_val (val_assign f105))
        intro v255 h256
        intro v257 h258
        intro v259 h260
        intro v261 h262
        intro v263 h264
        intro v265 h266
        intro v267 h268
        obtain rfl := Eq.symm h256
        obtain rfl := Eq.symm h258
        obtain rfl := Eq.symm h260
        obtain rfl := Eq.symm h262
        obtain rfl := Eq.symm h266
        obtain rfl := Eq.symm h268
        refine wo_nil ?_
        refine wg_ret ?_
        obtain rfl := Option.some.inj hd0
        refine body_end (D := []) (J := [box b31 [(.int .i64 y13.inputs), (.int .i64 y13.outputs), v35] 27, box b32 [(.int .i64 o39.1), (.int .i64 o39.2.1), v42] 27]) (rs := [.tmp 6]) (vs := [(.bool ((decide ((↑y205.1.length : Int) = 0)) && (y251.getD default)))]) ((((((((le4.trans le8).trans le12).trans le18).trans le41).trans le210).trans le220).trans le234).trans le254) rfl rfl ⟨rfl, trivial⟩ ?_
        exact ⟨rfl, rfl⟩
      · replace hd0 := sel_f e250 hd0; clear e250
        refine wg_skip ?_
        refine wg_seq ?_
        refine wg_region ?_
        refine wo_v rfl (val_loadBA (i := 0) ag27 sz27 rfl rfl rfl rfl) ?_
        replace hd0 := bd_some hd0; obtain ⟨y269, c270, hd0⟩ := hd0
        refine wo_callP rfl en13 rfl (c_gauntletref06_Access (⟨_, ⟨_, _, rfl, rfl, ⟨_, _, rfl, rfl, (rep_one rfl (h36.mono (((le41.trans le210).trans le220).trans le234)))⟩⟩, rfl⟩ : VRep (kMach false false) _ _ (⟨y13.inputs, y13.outputs, y13.rows⟩ : Mach)) c270) fun v271 R273 le274 h272 => ?_
        obtain ⟨v275, v277, rfl, h276, h278⟩ := h272
        refine wo_v rfl (val_move (v := (.tuple #[v275, v277])) rfl) ?_
        refine wo_v rfl (val_extract rfl rfl) ?_
        refine wo_v rfl (val_extract rfl rfl) ?_
        refine wo_v rfl (val_assign (v := v275) rfl) ?_
        refine wo_v rfl (val_assign (v := v277) rfl) ?_
        refine wo_nil ?_
        refine wg_seq ?_
        refine wg_seq ?_
        refine wg_guarded 12 [] [phX v211, phX (.int .i64 (↑y205.1.length : Int)), phX v275, phX (.int .i64 (↑y269.1.length : Int)), phX (.bool (decide ((↑y205.1.length : Int) ≠ (↑y269.1.length : Int)))), phX (.bool (decide ((↑y205.1.length : Int) ≠ (↑y269.1.length : Int)))), phG (true && ((decide ((↑y205.1.length : Int) ≠ (↑y269.1.length : Int))) == false)) (phX v211), phG (true && ((decide ((↑y205.1.length : Int) ≠ (↑y269.1.length : Int))) == false)) (phX (.int .i64 (↑y205.1.length : Int))), phG (true && ((decide ((↑y205.1.length : Int) ≠ (↑y269.1.length : Int))) == false)) (phX v211), phG (true && ((decide ((↑y205.1.length : Int) ≠ (↑y269.1.length : Int))) == false)) (phX (.int .i64 (↑y205.1.length : Int))), phG (true && ((decide ((↑y205.1.length : Int) ≠ (↑y269.1.length : Int))) == false)) (phX (.bool (decide ((↑y205.1.length : Int) ≠ (↑y205.1.length : Int))))), phX (.bool ((decide ((↑y205.1.length : Int) ≠ (↑y269.1.length : Int))) || (decide ((↑y205.1.length : Int) ≠ (↑y205.1.length : Int)))))] (by kernel_rfl) (by kernel_rfl) (monoOk_of ⟨mono_x, mono_x, mono_x, mono_x, mono_x, mono_x, (mono_g mono_x), (mono_g mono_x), (mono_g mono_x), (mono_g mono_x), (mono_g mono_x), mono_x, trivial⟩) ⟨?_, ?_, ?_, ?_, ?_, ?_, ?_, ?_, ?_, ?_, ?_, ?_, trivial⟩ fun R279 le280 => ?_
        · intro l R0q hle ha hd
          have a13 : l 13 = v211 := ha 13 rfl
          exact gstep_plain rfl rfl rfl (ph_val (val_move a13))
        · intro l R1q hle ha hd
          obtain ⟨d0, _⟩ := hd
          have f111 : l 111 = v211 := d0 rfl
          exact gstep_plain rfl rfl rfl (ph_val (val_lenR rfl Try.underlying36 f111 (sl_s ((h212.mono ((le220.trans le234).trans le274)).mono hle))))
        · intro l R2q hle ha hd
          have a17 : l 17 = v275 := ha 17 rfl
          exact gstep_plain rfl rfl rfl (ph_val (val_move a17))
        · intro l R3q hle ha hd
          obtain ⟨d0, _⟩ := hd
          have f113 : l 113 = v275 := d0 rfl
          exact gstep_plain rfl rfl rfl (ph_val (val_lenR rfl Try.underlying29 f113 (sl_s (h276.mono hle))))
        · intro l R4q hle ha hd
          obtain ⟨d0, d1, _⟩ := hd
          have f112 : l 112 = (.int .i64 (↑y205.1.length : Int)) := d0 rfl
          have f114 : l 114 = (.int .i64 (↑y269.1.length : Int)) := d1 rfl
          exact gstep_plain rfl rfl rfl (ph_val (val_neq f112 f114))
        · intro l R5q hle ha hd
          obtain ⟨d0, _⟩ := hd
          have f115 : l 115 = (.bool (decide ((↑y205.1.length : Int) ≠ (↑y269.1.length : Int)))) := d0 rfl
          exact gstep_plain rfl rfl rfl (ph_val (val_move f115))
        · intro l R6q hle ha hd
          obtain ⟨d0, _⟩ := hd
          have a13 : l 13 = v211 := ha 13 rfl
          exact gstep_guard (Gj := true) (Bj := decide ((↑y205.1.length : Int) ≠ (↑y269.1.length : Int))) rfl rfl rfl (gtrue (d0 rfl)) rfl (fun hG hB => ph_val (val_move a13))
        · intro l R7q hle ha hd
          obtain ⟨d0, d1, _⟩ := hd
          have f117g : phG (true && ((decide ((↑y205.1.length : Int) ≠ (↑y269.1.length : Int))) == false)) (phX v211) (l 117) R7q := d0 rfl
          exact gstep_guard (Gj := true) (Bj := decide ((↑y205.1.length : Int) ≠ (↑y269.1.length : Int))) rfl rfl rfl (gtrue (d1 rfl)) rfl (fun hG hB => ph_val (val_capT rfl Try.underlying36 (show l 117 = v211 from f117g.1 (gandT rfl hB)) ((h212.mono ((le220.trans le234).trans le274)).mono hle)))
        · intro l R8q hle ha hd
          obtain ⟨d0, _⟩ := hd
          have a13 : l 13 = v211 := ha 13 rfl
          exact gstep_guard (Gj := true) (Bj := decide ((↑y205.1.length : Int) ≠ (↑y269.1.length : Int))) rfl rfl rfl (gtrue (d0 rfl)) rfl (fun hG hB => ph_val (val_move a13))
        · intro l R9q hle ha hd
          obtain ⟨d0, d1, _⟩ := hd
          have f119g : phG (true && ((decide ((↑y205.1.length : Int) ≠ (↑y269.1.length : Int))) == false)) (phX v211) (l 119) R9q := d0 rfl
          exact gstep_guard (Gj := true) (Bj := decide ((↑y205.1.length : Int) ≠ (↑y269.1.length : Int))) rfl rfl rfl (gtrue (d1 rfl)) rfl (fun hG hB => ph_val (val_lenR rfl Try.underlying36 (show l 119 = v211 from f119g.1 (gandT rfl hB)) (sl_s ((h212.mono ((le220.trans le234).trans le274)).mono hle))))
        · intro l R10q hle ha hd
          obtain ⟨d0, d1, d2, _⟩ := hd
          have f118g : phG (true && ((decide ((↑y205.1.length : Int) ≠ (↑y269.1.length : Int))) == false)) (phX (.int .i64 (↑y205.1.length : Int))) (l 118) R10q := d0 rfl
          have f120g : phG (true && ((decide ((↑y205.1.length : Int) ≠ (↑y269.1.length : Int))) == false)) (phX (.int .i64 (↑y205.1.length : Int))) (l 120) R10q := d1 rfl
          exact gstep_guard (Gj := true) (Bj := decide ((↑y205.1.length : Int) ≠ (↑y269.1.length : Int))) rfl rfl rfl (gtrue (d2 rfl)) rfl (fun hG hB => ph_val (val_neq (show l 118 = (.int .i64 (↑y205.1.length : Int)) from f118g.1 (gandT rfl hB)) (show l 120 = (.int .i64 (↑y205.1.length : Int)) from f120g.1 (gandT rfl hB))))
        · intro l R11q hle ha hd
          obtain ⟨d0, d1, _⟩ := hd
          have f116 : l 116 = (.bool (decide ((↑y205.1.length : Int) ≠ (↑y269.1.length : Int)))) := d0 rfl
          have f121g : phG (true && ((decide ((↑y205.1.length : Int) ≠ (↑y269.1.length : Int))) == false)) (phX (.bool (decide ((↑y205.1.length : Int) ≠ (↑y205.1.length : Int))))) (l 121) R11q := d1 rfl
          exact gstep_plain rfl rfl rfl (ph_val (val_or f116 rfl (fun hb => (show l 121 = (.bool (decide ((↑y205.1.length : Int) ≠ (↑y205.1.length : Int)))) from f121g.1 (gandT rfl hb)))))
        intro v281 h282
        intro v283 h284
        intro v285 h286
        intro v287 h288
        intro v289 h290
        intro v291 h292
        intro v293 h294
        intro v295 h296
        intro v297 h298
        intro v299 h300
        intro v301 h302
        intro v303 h304
        obtain rfl := Eq.symm h282
        obtain rfl := Eq.symm h284
        obtain rfl := Eq.symm h286
        obtain rfl := Eq.symm h288
        obtain rfl := Eq.symm h290
        obtain rfl := Eq.symm h292
        obtain rfl := Eq.symm h304
        refine wo_nil ?_
        refine wg_cond rfl (fun e305 => ?_) (fun e305 => ?_)
        · replace hd0 := sel_t e305 hd0; clear e305
          refine wg_seq ?_
          refine wg_region ?_
          refine wo_v rfl (val_assign (v := (.bool false)) rfl) ?_
          refine wo_nil ?_
          refine wg_ret ?_
          obtain rfl := Option.some.inj hd0
          refine body_end (D := []) (J := [box b31 [(.int .i64 y13.inputs), (.int .i64 y13.outputs), v35] 27, box b32 [(.int .i64 o39.1), (.int .i64 o39.2.1), v42] 27]) (rs := [.tmp 6]) (vs := [(.bool false)]) (((((((((le4.trans le8).trans le12).trans le18).trans le41).trans le210).trans le220).trans le234).trans le274).trans le280) rfl rfl ⟨rfl, trivial⟩ ?_
          exact ⟨rfl, rfl⟩
        · replace hd0 := sel_f e305 hd0; clear e305
          refine wg_skip ?_
          replace hd0 := bd_some hd0; obtain ⟨q307, hd1, hd0⟩ := hd0
          refine wg_meet (γ := Unit) true [19, 123, 124, 125, 126, 20, 129, 130, 131, 132, 133, 134, 135, 136, 137, 138, 139, 140, 141, 142, 143, 144, 6, 127, 128] (fun g => []) (fun g => [] ++ A) (fun g R => q307 = Ex.go g ∧ True) ?_ ?_
          ·
            refine wg_seq ?_
            refine wg_region ?_
            refine wo_v rfl (val_assign (v := (.int .i64 0)) rfl) ?_
            refine wo_nil ?_
            refine wg_block ?_
            refine wg_loopS (γ := Nat × Int) true [123, 124, 125, 126, 20, 129, 130, 131, 132, 133, 134, 135, 136, 137, 138, 139, 140, 141, 142, 143, 144, 6, 127, 128, 19] (fun g => [(19, (.int .i64 g.2))]) (fun g => [box b32 [(.int .i64 o39.1), (.int .i64 o39.2.1), v42] 27] ++ A) (fun g R => gauntletlaw06_WalksIsomorphic_L2 N o39 y205 y269 g.1 g.2 = some q307 ∧ True) (fun g => g.1) (N, 0) ⟨rfl, trivial⟩ ⟨[box b31 [(.int .i64 y13.inputs), (.int .i64 y13.outputs), v35] 27], (List.Perm.refl _)⟩ ⟨hd1, trivial⟩ (fun _ => rfl) ?_
            clear hd1
            rintro ⟨F310, x311⟩ j353 D354 R312 hD355 le313 ⟨hd1, _⟩
            obtain rfl := hD355 rfl
            rcases F310 with _ | F310
            · exact none_elim hd1
            replace hd1 : gauntletlaw06_WalksIsomorphic_L2 N o39 y205 y269 (F310 + 1) x311 = some q307 := hd1; rw [gauntletlaw06_WalksIsomorphic_L2] at hd1
            refine wg_seq ?_
            refine wg_seq ?_
            refine wg_region ?_
            refine wo_v rfl (val_move (v := (.int .i64 x311)) rfl) ?_
            refine wo_v rfl (val_move (v := v211) rfl) ?_
            refine wo_v rfl (val_lenR rfl Try.underlying36 rfl (sl_s (h212.mono ((((le220.trans le234).trans le274).trans le280).trans le313)))) ?_
            refine wo_v rfl (val_lss rfl rfl) ?_
            refine wo_nil ?_
            refine wg_cond rfl (fun e314 => ?_) (fun e314 => ?_)
            · replace hd1 := sel_t e314 hd1; clear e314
              refine wg_skip ?_
              refine wg_seq ?_
              refine wg_block ?_
              refine wg_seq ?_
              refine wg_region ?_
              refine wo_v rfl (val_assign (v := (.int .i64 (-1))) rfl) ?_
              refine wo_nil ?_
              replace hd1 := bd_some hd1; obtain ⟨o315, hd2, hd1⟩ := hd1
              refine wg_meet (γ := Int) true [129, 130, 131, 132, 133, 134, 135, 136, 137, 138, 20] (fun g => [(20, (.int .i64 g))]) (fun g => [box b32 [(.int .i64 o39.1), (.int .i64 o39.2.1), v42] 27] ++ A) (fun g R => o315 = g ∧ True) ?_ ?_
              ·
                refine wg_seq ?_
                refine wg_region ?_
                refine wo_v rfl (val_move (v := v277) rfl) ?_
                refine wo_v rfl (val_move (v := (.int .i64 x311)) rfl) ?_
                have g318 := (gd_some hd2).1; replace hd2 := (gd_some hd2).2
                refine wo_indexR (i := x311.toNat) rfl sl30 rfl (sl_s (h278.mono (le280.trans le313))) (idx_nonneg rfl g318.1) (okI_lt g318) fun v319 h320 => ?_
                refine wo_loadR rfl ty4 rfl h320 fun v321 h322 => ?_
                obtain rfl := vrep_bool.1 h322
                refine wo_nil ?_
                refine wg_cond rfl (fun e323 => ?_) (fun e323 => ?_)
                · replace hd2 := sel_t e323 hd2; clear e323
                  have g324 := (gd_some hd2).1; replace hd2 := (gd_some hd2).2
                  replace hd2 := bd_some hd2; obtain ⟨y325, c326, hd2⟩ := hd2
                  refine wg_drawn 7 [] [phX (.agg #[(.int .i64 o39.1), (.int .i64 o39.2.1), v42]), phX v275, phX (.int .i64 x311), phP (tSl false (tInt .i64)) (ix y269.1 x311), phR (tSl false (tInt .i64)) (ix y269.1 x311), phX (.int .i64 y325), phX (.int .i64 y325)] mixed (by kernel_rfl) (monoOk_of ⟨mono_x, mono_x, mono_x, mono_p, mono_r, mono_x, mono_x, trivial⟩) ⟨?_, ?_, ?_, ?_, ?_, ?_, ?_, trivial⟩ fun R327 le328 => ?_
                  · intro l R0q hle ha hd
                    have a8 : l 8 = (.pointer (some ⟨b32, 0, none⟩)) := ha 8 rfl
                    exact gstep_plain rfl rfl rfl (ph_val (val_loadBA (i := 0) ag27 sz27 a8 rfl rfl rfl))
                  · intro l R1q hle ha hd
                    have a17 : l 17 = v275 := ha 17 rfl
                    exact gstep_plain rfl rfl rfl (ph_val (val_move a17))
                  · intro l R2q hle ha hd
                    have a19 : l 19 = (.int .i64 x311) := ha 19 rfl
                    exact gstep_plain rfl rfl rfl (ph_val (val_move a19))
                  · intro l R3q hle ha hd
                    obtain ⟨d0, d1, _⟩ := hd
                    have f134 : l 134 = v275 := d0 rfl
                    have f135 : l 135 = (.int .i64 x311) := d1 rfl
                    exact gstep_plain rfl rfl rfl (ph_indexR (i := x311.toNat) sl29 f134 (sl_s ((h276.mono (le280.trans le313)).mono hle)) (idx_nonneg f135 g324.1) (okI_lt g324))
                  · intro l R4q hle ha hd
                    obtain ⟨d0, _⟩ := hd
                    have f136 : phP (tSl false (tInt .i64)) (ix y269.1 x311) (l 136) R4q := d0 rfl
                    exact gstep_plain rfl rfl rfl (ph_loadR ty36 rfl f136)
                  · intro l R5q hle ha hd
                    obtain ⟨d0, d1, _⟩ := hd
                    have f133 : l 133 = (.agg #[(.int .i64 o39.1), (.int .i64 o39.2.1), v42]) := d0 rfl
                    have f137 : phR (tSl false (tInt .i64)) (ix y269.1 x311) (l 137) R5q := d1 rfl
                    exact gstep_plain rfl rfl rfl (ph_callP (vs := [(.agg #[(.int .i64 o39.1), (.int .i64 o39.2.1), v42]), (.int .i64 0), (l 137)]) en15 (by simp only [List.map, ev, f133] <;> rfl) (c_gauntletref04_After (⟨_, ⟨_, _, rfl, rfl, ⟨_, _, rfl, rfl, (rep_one rfl ((h43.mono (((((le210.trans le220).trans le234).trans le274).trans le280).trans le313)).mono hle))⟩⟩, rfl⟩ : VRep (kMach false false) _ _ (⟨o39.1, o39.2.1, o39.2.2⟩ : Mach)) f137 c326) (fun _ _ h => h))
                  · intro l R6q hle ha hd
                    obtain ⟨d0, d1, d2, d3, d4, d5, d6, d7, _⟩ := hd
                    have f138 : l 138 = (.int .i64 y325) := d0 rfl
                    exact gstep_plain rfl rfl rfl (ph_val (val_assign f138))
                  intro v329 h330
                  intro v331 h332
                  intro v333 h334
                  intro v335 h336
                  intro v337 h338
                  intro v339 h340
                  intro v341 h342
                  obtain rfl := Eq.symm h330
                  obtain rfl := Eq.symm h332
                  obtain rfl := Eq.symm h334
                  obtain rfl := Eq.symm h340
                  obtain rfl := Eq.symm h342
                  refine wo_nil ?_
                  exact ⟨(fun _ => rfl), le328, (by repeat (first | exact off_self | refine off_upd rfl ?_ | refine off_setl rfl ?_ | refine off_mask_sub rfl ?_)), y325, ⟨rfl, trivial⟩, ⟨[], List.Perm.refl _⟩, (Option.some.inj hd2).symm, trivial⟩
                · replace hd2 := sel_f e323 hd2; clear e323
                  refine wg_skip ?_
                  exact ⟨(fun _ => rfl), (RH.le.refl _), (by repeat (first | exact off_self | refine off_upd rfl ?_ | refine off_setl rfl ?_ | refine off_mask_sub rfl ?_)), (-1), ⟨rfl, trivial⟩, ⟨[], List.Perm.refl _⟩, (Option.some.inj hd2).symm, trivial⟩
              ·
                rintro o315 j343 D344 R316 hD345 le317 ⟨rfl, _⟩
                obtain rfl := hD345 rfl
                refine wg_seq ?_
                refine wg_region ?_
                refine wo_v rfl (val_move (v := v211) rfl) ?_
                refine wo_v rfl (val_move (v := (.int .i64 x311)) rfl) ?_
                have g346 := (gd_some hd1).1; replace hd1 := (gd_some hd1).2
                refine wo_indexR (i := x311.toNat) rfl sl36 rfl (sl_s (h212.mono (((((le220.trans le234).trans le274).trans le280).trans le313).trans le317))) (idx_nonneg rfl g346.1) (okI_lt g346) fun v347 h348 => ?_
                refine wo_loadR rfl ty3 rfl h348 fun v349 h350 => ?_
                obtain rfl := vrep_int.1 h350
                refine wo_v rfl (val_move (v := (.int .i64 o315)) rfl) ?_
                refine wo_v rfl (val_neq rfl rfl) ?_
                refine wo_nil ?_
                refine wg_cond rfl (fun e351 => ?_) (fun e351 => ?_)
                · replace hd1 := sel_t e351 hd1; clear e351
                  refine wg_seq ?_
                  refine wg_region ?_
                  refine wo_v rfl (val_assign (v := (.bool false)) rfl) ?_
                  refine wo_nil ?_
                  refine wg_ret ?_
                  replace hd0 := on_rt hd1 hd0
                  obtain rfl := Option.some.inj hd0
                  refine body_end (D := []) (J := [box b32 [(.int .i64 o39.1), (.int .i64 o39.2.1), v42] 27]) (rs := [.tmp 6]) (vs := [(.bool false)]) (((((((((((le4.trans le8).trans le12).trans le18).trans le41).trans le210).trans le220).trans le234).trans le274).trans le280).trans le313).trans le317) rfl rfl ⟨rfl, trivial⟩ ?_
                  exact ⟨rfl, rfl⟩
                · replace hd1 := sel_f e351 hd1; clear e351
                  refine wg_skip ?_
                  refine wg_region ?_
                  refine wo_v rfl (val_move (v := (.int .i64 x311)) rfl) ?_
                  have g352 := (gd_some hd1).1; replace hd1 := (gd_some hd1).2
                  refine wo_v rfl (val_add rfl rfl g352) ?_
                  refine wo_v rfl (val_assign (v := (.int .i64 (x311 + 1))) rfl) ?_
                  refine wo_nil ?_
                  exact ⟨(fun _ => rfl), le317, (by repeat (first | exact off_self | refine off_upd rfl ?_ | refine off_setl rfl ?_ | refine off_mask_sub rfl ?_)), (F310, x311 + 1), Nat.lt_succ_self _, ⟨rfl, trivial⟩, ⟨[], List.Perm.refl _⟩, hd1, trivial⟩
            · replace hd1 := sel_f e314 hd1; clear e314
              refine wg_exit ?_
              exact ⟨(fun _ => rfl), le313, (by repeat (first | exact off_self | refine off_upd rfl ?_ | refine off_setl rfl ?_ | refine off_mask_sub rfl ?_)), (), trivial, ⟨[box b32 [(.int .i64 o39.1), (.int .i64 o39.2.1), v42] 27], (List.Perm.refl _)⟩, (Option.some.inj hd1).symm, trivial⟩
          ·
            rintro o306 j356 D357 R308 hD358 le309 ⟨rfl, _⟩
            obtain rfl := hD358 rfl
            replace hd0 := on_go hd0
            refine wg_seq ?_
            refine wg_region ?_
            replace hd0 := bd_some hd0; obtain ⟨y359, c360, hd0⟩ := hd0
            refine wo_callP rfl en18 rfl (c_gauntletlaw06_lives  c360) fun v361 R363 le364 h362 => ?_
            obtain rfl := h362
            refine wo_v rfl (val_assign (v := (.bool y359)) rfl) ?_
            refine wo_nil ?_
            refine wg_ret ?_
            obtain rfl := Option.some.inj hd0
            refine body_end (D := []) (J := []) (rs := [.tmp 6]) (vs := [(.bool y359)]) (((((((((((le4.trans le8).trans le12).trans le18).trans le41).trans le210).trans le220).trans le234).trans le274).trans le280).trans le309).trans le364) rfl rfl ⟨rfl, trivial⟩ ?_
            exact ⟨rfl, rfl⟩
end GV
end Go.Proofs.Ytncblcdhmcmkmaa
