/- The walks of the functions; printed. -/
import Derived.Test.YtncblcdhmcmkmaaShWe
import Derived.Test.YtncblcdhmcmkmaaRows
namespace Go.Proofs.Ytncblcdhmcmkmaa
namespace GV
open Go.IntWalk
set_option linter.unusedVariables false
set_option linter.unusedSimpArgs false
set_option maxRecDepth 100000
set_option maxHeartbeats 20000000
theorem ty24 {b0 : Bool} : TyOk Try.prog 24 (kMDat b0) := by
  obtain ⟨i, hi, hs⟩ : ∃ i, Try.prog.info? 24 = some i ∧ i.size = 5 := info_size (by kernel_rfl)
  exact tyOk_of Try.underlying24 hi rfl hs
theorem fd24_0 : FieldOk Try.prog 24 0 0 := by
  obtain ⟨i, hi, hs⟩ : ∃ i, Try.prog.info? 5 = some i ∧ i.size = 1 := info_size (by kernel_rfl)
  exact fieldOk_of Try.underlying24 rfl rfl hi (by rw [hs]; rfl)
theorem fd24_1 : FieldOk Try.prog 24 1 1 := by
  obtain ⟨i, hi, hs⟩ : ∃ i, Try.prog.info? 5 = some i ∧ i.size = 1 := info_size (by kernel_rfl)
  exact fieldOk_of Try.underlying24 rfl rfl hi (by rw [hs]; rfl)
theorem fd24_2 : FieldOk Try.prog 24 2 2 := by
  obtain ⟨i, hi, hs⟩ : ∃ i, Try.prog.info? 5 = some i ∧ i.size = 1 := info_size (by kernel_rfl)
  exact fieldOk_of Try.underlying24 rfl rfl hi (by rw [hs]; rfl)
theorem fd24_4 : FieldOk Try.prog 24 4 4 := by
  obtain ⟨i, hi, hs⟩ : ∃ i, Try.prog.info? 22 = some i ∧ i.size = 1 := info_size (by kernel_rfl)
  exact fieldOk_of Try.underlying24 rfl rfl hi (by rw [hs]; rfl)
theorem fd24_3 : FieldOk Try.prog 24 3 3 := by
  obtain ⟨i, hi, hs⟩ : ∃ i, Try.prog.info? 4 = some i ∧ i.size = 1 := info_size (by kernel_rfl)
  exact fieldOk_of Try.underlying24 rfl rfl hi (by rw [hs]; rfl)
theorem c_gauntletlaw04_M_Of {N : Nat} {R : RH} {x : MDat} {v_x : Value} (h_x : VRep (kMDat false) R v_x x) {r : Mach} (hd0 : gauntletlaw04_M_Of N x = some r) : CallP Try.prog 11 #[v_x] R (fun v R' => VRep (kMach false false) R' v r) := by
  refine callP_of_wg (args := [v_x]) Try.func11 rfl rfl fun A => ?_
  rw [gauntletlaw04_M_Of] at hd0
  refine wg_seq ?_
  refine wg_region ?_
  refine wo_boxR (T := (kMDat false)) rfl rfl h_x fun v1 R3 le4 h2 => ?_
  refine wo_alloc rfl za27 fun b5 => ?_
  refine wo_nil ?_
  refine wg_seq ?_
  refine wg_region ?_
  refine wo_fieldR rfl fd24_0 pt_MDat0 rfl h2 fun v7 h8 => ?_
  refine wo_loadR rfl ty5 rfl h8 fun v9 h10 => ?_
  obtain rfl := vrep_int.1 h10
  have g11 := (gd_some hd0).1; replace hd0 := (gd_some hd0).2
  refine wo_v rfl (val_rem0 rfl rfl g11) ?_
  have g12 := (gd_some hd0).1; replace hd0 := (gd_some hd0).2
  refine wo_v rfl (val_conv64 Try.underlying5 Try.underlying3 rfl g12) ?_
  have g13 := (gd_some hd0).1; replace hd0 := (gd_some hd0).2
  refine wo_v rfl (val_add rfl rfl g13) ?_
  refine wo_v rfl (val_assign (v := (.int .i64 ((1 : Int) + (x.states % 6)))) rfl) ?_
  refine wo_nil ?_
  refine wg_seq ?_
  refine wg_region ?_
  refine wo_fieldR rfl fd24_1 pt_MDat1 rfl h2 fun v14 h15 => ?_
  refine wo_loadR rfl ty5 rfl h15 fun v16 h17 => ?_
  obtain rfl := vrep_int.1 h17
  have g18 := (gd_some hd0).1; replace hd0 := (gd_some hd0).2
  refine wo_v rfl (val_rem0 rfl rfl g18) ?_
  have g19 := (gd_some hd0).1; replace hd0 := (gd_some hd0).2
  refine wo_v rfl (val_conv64 Try.underlying5 Try.underlying3 rfl g19) ?_
  have g20 := (gd_some hd0).1; replace hd0 := (gd_some hd0).2
  refine wo_v rfl (val_add rfl rfl g20) ?_
  refine wo_fieldR rfl fd24_2 pt_MDat2 rfl h2 fun v21 h22 => ?_
  refine wo_loadR rfl ty5 rfl h22 fun v23 h24 => ?_
  obtain rfl := vrep_int.1 h24
  have g25 := (gd_some hd0).1; replace hd0 := (gd_some hd0).2
  refine wo_v rfl (val_rem0 rfl rfl g25) ?_
  have g26 := (gd_some hd0).1; replace hd0 := (gd_some hd0).2
  refine wo_v rfl (val_conv64 Try.underlying5 Try.underlying3 rfl g26) ?_
  have g27 := (gd_some hd0).1; replace hd0 := (gd_some hd0).2
  refine wo_v rfl (val_add rfl rfl g27) ?_
  refine wo_v rfl (val_buildL (ps := [(0, (.int .i64 ((1 : Int) + (x.ins % 3)))), (1, (.int .i64 ((1 : Int) + (x.outs % 3))))]) (v := (.agg #[(.int .i64 ((1 : Int) + (x.ins % 3))), (.int .i64 ((1 : Int) + (x.outs % 3))), (.slice none 0 0)])) rfl (fun w => by kernel_rfl)) ?_
  refine wo_alloc rfl za27 fun b28 => ?_
  refine wo_store (i := 0) (vs := [(.int .i64 ((1 : Int) + (x.ins % 3))), (.int .i64 ((1 : Int) + (x.outs % 3))), (.slice none 0 0)]) sz27 rfl rfl rfl rfl rfl rfl (one_cons rfl (one_cons rfl (one_cons rfl one_nil))) ?_
  refine wo_nil ?_
  replace hd0 := bd_some hd0; obtain ⟨o30, hd1, hd0⟩ := hd0
  refine wg_meet (γ := (List (List Edge)) × Value × Frag) true [5, 26, 27, 28, 6, 7, 31, 32, 33, 34, 8, 37, 38, 39, 40, 41, 42, 9, 43, 44, 45, 46, 47, 48, 49, 50, 51, 52, 53, 54, 55, 56, 57, 58, 59, 60, 61, 62, 63, 64, 65, 66, 67, 68, 69, 70, 71, 72, 73, 74, 75, 76, 77, 78, 79, 35, 36, 80, 81, 82, 83, 84, 85, 29, 30] (fun g => []) (fun g => [box b5 [(.int .i64 0), (.int .i64 0), (.slice none 0 0)] 27, box b28 [(.int .i64 ((1 : Int) + (x.ins % 3))), (.int .i64 ((1 : Int) + (x.outs % 3))), g.2.1] 27, g.2.2] ++ A) (fun g R => o30 = g.1 ∧ ORep (tSl false kEdge) R g.2.2 g.2.1 g.1 ∧ True) ?_ ?_
  ·
    refine wg_seq ?_
    refine wg_region ?_
    refine wo_v rfl (val_assign (v := (.int .i64 0)) rfl) ?_
    refine wo_nil ?_
    refine wg_block ?_
    refine wg_emp ?_
    refine wg_loopS (γ := Nat × Int × (List (List Edge)) × Value × Frag) true [26, 27, 28, 6, 7, 31, 32, 33, 34, 8, 37, 38, 39, 40, 41, 42, 9, 43, 44, 45, 46, 47, 48, 49, 50, 51, 52, 53, 54, 55, 56, 57, 58, 59, 60, 61, 62, 63, 64, 65, 66, 67, 68, 69, 70, 71, 72, 73, 74, 75, 76, 77, 78, 79, 35, 36, 80, 81, 82, 83, 84, 85, 29, 30, 5] (fun g => [(5, (.int .i64 g.2.1))]) (fun g => [box b5 [(.int .i64 0), (.int .i64 0), (.slice none 0 0)] 27, box b28 [(.int .i64 ((1 : Int) + (x.ins % 3))), (.int .i64 ((1 : Int) + (x.outs % 3))), g.2.2.2.1] 27, g.2.2.2.2] ++ A) (fun g R => gauntletlaw04_M_Of_L1 N x g.1 g.2.1 g.2.2.1 = some o30 ∧ ORep (tSl false kEdge) R g.2.2.2.2 g.2.2.2.1 g.2.2.1 ∧ True) (fun g => g.1) (N, 0, ([] : List (List Edge)), (.slice none 0 0), emp) ⟨rfl, trivial⟩ ⟨[], (pk 2 rfl (pk 1 rfl (pk 0 rfl (List.Perm.refl _))))⟩ ⟨hd1, (orep_emp (T := (tSl false kEdge))), trivial⟩ (fun _ => rfl) ?_
    clear hd1
    rintro ⟨F38, x39, x40, v43, f44⟩ j193 D194 R41 hD195 le42 ⟨hd1, h45, _⟩
    obtain rfl := hD195 rfl
    rcases F38 with _ | F38
    · exact none_elim hd1
    replace hd1 : gauntletlaw04_M_Of_L1 N x (F38 + 1) x39 x40 = some o30 := hd1; rw [gauntletlaw04_M_Of_L1] at hd1
    refine wg_seq ?_
    refine wg_seq ?_
    refine wg_region ?_
    refine wo_v rfl (val_move (v := (.int .i64 x39)) rfl) ?_
    refine wo_v rfl (val_move (v := (.int .i64 ((1 : Int) + (x.states % 6)))) rfl) ?_
    refine wo_v rfl (val_lss rfl rfl) ?_
    refine wo_nil ?_
    refine wg_cond rfl (fun e47 => ?_) (fun e47 => ?_)
    · replace hd1 := sel_t e47 hd1; clear e47
      refine wg_skip ?_
      refine wg_seq ?_
      refine wg_block ?_
      refine wg_seq ?_
      refine wg_region ?_
      refine wo_v rfl (val_assign (v := (.slice none 0 0)) rfl) ?_
      refine wo_nil ?_
      replace hd1 := bd_some hd1; obtain ⟨o48, hd2, hd1⟩ := hd1
      refine wg_meet (γ := (List Edge) × Value × Frag) true [7, 31, 32, 33, 34, 8, 37, 38, 39, 40, 41, 42, 9, 43, 44, 45, 46, 47, 48, 49, 50, 51, 52, 53, 54, 55, 56, 57, 58, 59, 60, 61, 62, 63, 64, 6, 65, 66, 67, 68, 69, 70, 71, 72, 73, 74, 75, 76, 77, 78, 79, 35, 36] (fun g => [(6, g.2.1)]) (fun g => [box b5 [(.int .i64 0), (.int .i64 0), (.slice none 0 0)] 27, box b28 [(.int .i64 ((1 : Int) + (x.ins % 3))), (.int .i64 ((1 : Int) + (x.outs % 3))), v43] 27, f44, g.2.2] ++ A) (fun g R => o48 = g.1 ∧ ORep kEdge R g.2.2 g.2.1 g.1 ∧ True) ?_ ?_
      ·
        refine wg_seq ?_
        refine wg_region ?_
        refine wo_v rfl (val_assign (v := (.int .i64 0)) rfl) ?_
        refine wo_nil ?_
        refine wg_block ?_
        refine wg_emp ?_
        refine wg_loopS (γ := Nat × (List Edge) × Int × Value × Frag) true [31, 32, 33, 34, 8, 37, 38, 39, 40, 41, 42, 9, 43, 44, 45, 46, 47, 48, 49, 50, 51, 52, 53, 54, 55, 56, 57, 58, 59, 60, 61, 62, 63, 64, 6, 65, 66, 67, 68, 69, 70, 71, 72, 73, 74, 75, 76, 77, 78, 79, 35, 36, 7] (fun g => [(6, g.2.2.2.1), (7, (.int .i64 g.2.2.1))]) (fun g => [box b5 [(.int .i64 0), (.int .i64 0), (.slice none 0 0)] 27, box b28 [(.int .i64 ((1 : Int) + (x.ins % 3))), (.int .i64 ((1 : Int) + (x.outs % 3))), v43] 27, f44, g.2.2.2.2] ++ A) (fun g R => gauntletlaw04_M_Of_L2 N x x39 g.1 g.2.1 g.2.2.1 = some o48 ∧ ORep kEdge R g.2.2.2.2 g.2.2.2.1 g.2.1 ∧ True) (fun g => g.1) (N, ([] : List Edge), 0, (.slice none 0 0), emp) ⟨rfl, rfl, trivial⟩ ⟨[], (pk 1 rfl (pk 1 rfl (pk 1 rfl (pk 0 rfl (List.Perm.refl _)))))⟩ ⟨hd2, (orep_emp (T := kEdge)), trivial⟩ (fun _ => rfl) ?_
        clear hd2
        rintro ⟨F56, x57, x58, v61, f62⟩ j169 D170 R59 hD171 le60 ⟨hd2, h63, _⟩
        obtain rfl := hD171 rfl
        rcases F56 with _ | F56
        · exact none_elim hd2
        replace hd2 : gauntletlaw04_M_Of_L2 N x x39 (F56 + 1) x57 x58 = some o48 := hd2; rw [gauntletlaw04_M_Of_L2] at hd2
        refine wg_seq ?_
        refine wg_seq ?_
        refine wg_region ?_
        refine wo_v rfl (val_move (v := (.int .i64 x58)) rfl) ?_
        refine wo_v rfl (val_fieldB fd27_0 rfl) ?_
        refine wo_v rfl (val_loadB (i := 1) ag3 rfl rfl rfl) ?_
        refine wo_v rfl (val_lss rfl rfl) ?_
        refine wo_nil ?_
        refine wg_cond rfl (fun e65 => ?_) (fun e65 => ?_)
        · replace hd2 := sel_t e65 hd2; clear e65
          refine wg_skip ?_
          replace hd2 := bd_some hd2; obtain ⟨o66, hd3, hd2⟩ := hd2
          refine wg_meet (γ := (List Edge) × Value × Frag) true [8, 37, 38, 39, 40, 41, 42, 9, 43, 44, 45, 46, 47, 48, 49, 50, 51, 52, 53, 54, 55, 56, 57, 58, 59, 60, 61, 62, 63, 64, 6, 65, 66, 67, 68, 69, 70, 71, 72, 73, 74, 75, 76, 77, 78, 79] (fun g => [(6, g.2.1)]) (fun g => [box b5 [(.int .i64 0), (.int .i64 0), (.slice none 0 0)] 27, box b28 [(.int .i64 ((1 : Int) + (x.ins % 3))), (.int .i64 ((1 : Int) + (x.outs % 3))), v43] 27, f44, g.2.2] ++ A) (fun g R => o66 = g.1 ∧ ORep kEdge R g.2.2 g.2.1 g.1 ∧ True) ?_ ?_
          ·
            refine wg_block ?_
            refine wg_seq ?_
            refine wg_region ?_
            refine wo_v rfl (val_assign (v := (.int .i64 0)) rfl) ?_
            refine wo_nil ?_
            replace hd3 := bd_some hd3; obtain ⟨o72, hd4, hd3⟩ := hd3
            refine wg_meet (γ := Int) true [37, 38, 39, 40, 41, 42, 9, 43, 44, 45, 46, 47, 48, 49, 50, 51, 52, 53, 8] (fun g => [(8, (.int .i64 g))]) (fun g => [box b5 [(.int .i64 0), (.int .i64 0), (.slice none 0 0)] 27, box b28 [(.int .i64 ((1 : Int) + (x.ins % 3))), (.int .i64 ((1 : Int) + (x.outs % 3))), v43] 27, f44, f62] ++ A) (fun g R => o72 = g ∧ True) ?_ ?_
            ·
              refine wg_seq ?_
              refine wg_region ?_
              refine wo_v rfl (val_move (v := (.int .i64 x39)) rfl) ?_
              refine wo_v rfl (val_fieldB fd27_0 rfl) ?_
              refine wo_v rfl (val_loadB (i := 1) ag3 rfl rfl rfl) ?_
              have g75 := (gd_some hd4).1; replace hd4 := (gd_some hd4).2
              refine wo_v rfl (val_mul rfl rfl g75) ?_
              refine wo_v rfl (val_move (v := (.int .i64 x58)) rfl) ?_
              have g76 := (gd_some hd4).1; replace hd4 := (gd_some hd4).2
              refine wo_v rfl (val_add rfl rfl g76) ?_
              refine wo_v rfl (val_assign (v := (.int .i64 ((x39 * ((1 : Int) + (x.ins % 3))) + x58))) rfl) ?_
              refine wo_nil ?_
              refine wg_seq ?_
              refine wg_region ?_
              refine wo_v rfl (val_move (v := (.int .i64 ((x39 * ((1 : Int) + (x.ins % 3))) + x58))) rfl) ?_
              refine wo_fieldR rfl fd24_4 pt_MDat4 rfl (h2.mono (le42.trans le60)) fun v77 h78 => ?_
              refine wo_loadR rfl ty22 rfl h78 fun v79 h80 => ?_
              refine wo_v rfl (val_lenR rfl Try.underlying22 rfl (sl_s h80)) ?_
              refine wo_v rfl (val_lss rfl rfl) ?_
              refine wo_nil ?_
              refine wg_cond rfl (fun e81 => ?_) (fun e81 => ?_)
              · replace hd4 := sel_t e81 hd4; clear e81
                refine wg_region ?_
                refine wo_fieldR rfl fd24_4 pt_MDat4 rfl (h2.mono (le42.trans le60)) fun v82 h83 => ?_
                refine wo_loadR rfl ty22 rfl h83 fun v84 h85 => ?_
                refine wo_v rfl (val_move (v := (.int .i64 ((x39 * ((1 : Int) + (x.ins % 3))) + x58))) rfl) ?_
                have g86 := (gd_some hd4).1; replace hd4 := (gd_some hd4).2
                refine wo_indexR (i := ((x39 * ((1 : Int) + (x.ins % 3))) + x58).toNat) rfl sl22 rfl (sl_s h85) (idx_nonneg rfl g86.1) (okI_lt g86) fun v87 h88 => ?_
                refine wo_loadR rfl ty80 rfl h88 fun v89 h90 => ?_
                obtain rfl := vrep_int.1 h90
                have g91 := (gd_some hd4).1; replace hd4 := (gd_some hd4).2
                refine wo_v rfl (val_conv64 Try.underlying80 Try.underlying3 rfl g91) ?_
                refine wo_v rfl (val_assign (v := (.int .i64 (ix x.edges ((x39 * ((1 : Int) + (x.ins % 3))) + x58)))) rfl) ?_
                refine wo_nil ?_
                exact ⟨(fun _ => rfl), (RH.le.refl _), (by repeat (first | exact off_self | refine off_upd rfl ?_ | refine off_setl rfl ?_ | refine off_mask_sub rfl ?_)), (ix x.edges ((x39 * ((1 : Int) + (x.ins % 3))) + x58)), ⟨rfl, trivial⟩, ⟨[], List.Perm.refl _⟩, (Option.some.inj hd4).symm, trivial⟩
              · replace hd4 := sel_f e81 hd4; clear e81
                refine wg_skip ?_
                exact ⟨(fun _ => rfl), (RH.le.refl _), (by repeat (first | exact off_self | refine off_upd rfl ?_ | refine off_setl rfl ?_ | refine off_mask_sub rfl ?_)), 0, ⟨rfl, trivial⟩, ⟨[], List.Perm.refl _⟩, (Option.some.inj hd4).symm, trivial⟩
            ·
              rintro o72 j92 D93 R73 hD94 le74 ⟨rfl, _⟩
              obtain rfl := hD94 rfl
              refine wg_seq ?_
              have g95 := (gd_some hd3).1; replace hd3 := (gd_some hd3).2
              refine wg_guarded 7 [] [phP tBool x.part, phX (.bool x.part), phX (.bool x.part), phG (true && (x.part == true)) (phX (.int .i64 o72)), phG (true && (x.part == true)) (phX (.int .i64 (o72 % 4))), phG (true && (x.part == true)) (phX (.bool (decide ((o72 % 4) = 3)))), phX (.bool (x.part && (decide ((o72 % 4) = 3))))] (by kernel_rfl) (by kernel_rfl) (monoOk_of ⟨mono_p, mono_x, mono_x, (mono_g mono_x), (mono_g mono_x), (mono_g mono_x), mono_x, trivial⟩) ⟨?_, ?_, ?_, ?_, ?_, ?_, ?_, trivial⟩ fun R96 le97 => ?_
              · intro l R0q hle ha hd
                have a1 : l 1 = v1 := ha 1 rfl
                exact gstep_plain rfl rfl rfl (ph_fieldR fd24_3 pt_MDat3 a1 ((h2.mono ((le42.trans le60).trans le74)).mono hle))
              · intro l R1q hle ha hd
                obtain ⟨d0, _⟩ := hd
                have f54 : phP tBool x.part (l 54) R1q := d0 rfl
                exact gstep_plain rfl rfl rfl (ph_exact (ph_loadR ty4 rfl f54) (fun _ _ h => vrep_bool.1 h))
              · intro l R2q hle ha hd
                obtain ⟨d0, _⟩ := hd
                have f55 : l 55 = (.bool x.part) := d0 rfl
                exact gstep_plain rfl rfl rfl (ph_val (val_move f55))
              · intro l R3q hle ha hd
                obtain ⟨d0, _⟩ := hd
                have a8 : l 8 = (.int .i64 o72) := ha 8 rfl
                exact gstep_guard (Gj := true) (Bj := x.part) rfl rfl rfl (gtrue (d0 rfl)) rfl (fun hG hB => ph_val (val_move a8))
              · intro l R4q hle ha hd
                obtain ⟨d0, d1, _⟩ := hd
                have f57g : phG (true && (x.part == true)) (phX (.int .i64 o72)) (l 57) R4q := d0 rfl
                exact gstep_guard (Gj := true) (Bj := x.part) rfl rfl rfl (gtrue (d1 rfl)) rfl (fun hG hB => ph_val (val_rem0 (show l 57 = (.int .i64 o72) from f57g.1 (gandT rfl hB)) rfl (g95 (gandT hG hB))))
              · intro l R5q hle ha hd
                obtain ⟨d0, d1, _⟩ := hd
                have f58g : phG (true && (x.part == true)) (phX (.int .i64 (o72 % 4))) (l 58) R5q := d0 rfl
                exact gstep_guard (Gj := true) (Bj := x.part) rfl rfl rfl (gtrue (d1 rfl)) rfl (fun hG hB => ph_val (val_eql (show l 58 = (.int .i64 (o72 % 4)) from f58g.1 (gandT rfl hB)) rfl))
              · intro l R6q hle ha hd
                obtain ⟨d0, d1, _⟩ := hd
                have f56 : l 56 = (.bool x.part) := d0 rfl
                have f59g : phG (true && (x.part == true)) (phX (.bool (decide ((o72 % 4) = 3)))) (l 59) R6q := d1 rfl
                exact gstep_plain rfl rfl rfl (ph_val (val_and f56 (fun hb => (show l 59 = (.bool (decide ((o72 % 4) = 3))) from f59g.1 (gandT rfl hb))) rfl))
              intro v98 h99
              intro v100 h101
              intro v102 h103
              intro v104 h105
              intro v106 h107
              intro v108 h109
              intro v110 h111
              obtain rfl := Eq.symm h101
              obtain rfl := Eq.symm h103
              obtain rfl := Eq.symm h111
              refine wo_nil ?_
              refine wg_cond rfl (fun e112 => ?_) (fun e112 => ?_)
              · replace hd3 := sel_t e112 hd3; clear e112
                refine wg_region ?_
                refine wo_v rfl (val_move (v := v61) rfl) ?_
                refine wo_v rfl (val_buildL (ps := [(0, (.int .i64 (-1))), (1, (.int .i64 (-1)))]) (v := (.agg #[(.int .i64 (-1)), (.int .i64 (-1))])) rfl (fun w => by kernel_rfl)) ?_
                refine wo_lit (T := kEdge) (X := ([(⟨(-1), (-1)⟩ : Edge)] : List Edge)) (ps := [(0, (.agg #[(.int .i64 (-1)), (.int .i64 (-1))]))]) (css := [[(.int .i64 (-1)), (.int .i64 (-1))]]) rfl Try.underlying50 zo49 rfl rfl (lit_reps ⟨⟨_, _, rfl, rfl, rfl⟩, trivial⟩) rfl rfl (by decide) fun v113 f114 cap115 h116 => ?_
                refine wo_freeze (i := 0) rfl h116 fun R118 le119 h120 => ?_
                have h121 : VRep (tSl true kEdge) R118 v113 ([(⟨(-1), (-1)⟩ : Edge)] : List Edge) := (sl_t h120 cap115)
                have g122 := (gd_some hd3).1; replace hd3 := (gd_some hd3).2
                refine wo_append (i := 3) (X := x57) (Y := ([(⟨(-1), (-1)⟩ : Edge)] : List Edge)) rfl Try.underlying50 zo49 rfl rfl rfl (h63.mono ((le74.trans le97).trans le119)) (sl_s (Sub.v (B := (tSl false kEdge)) (sub_sl Sub.refl (fun _ => rfl)) h121)) g122.1 g122.2 fun v123 f124 h125 => ?_
                refine wo_v rfl (val_assign (v := v123) rfl) ?_
                refine wo_nil ?_
                exact ⟨(fun _ => rfl), ((le74.trans le97).trans le119), (by repeat (first | exact off_self | refine off_upd rfl ?_ | refine off_setl rfl ?_ | refine off_mask_sub rfl ?_)), ((x57 ++ ([(⟨(-1), (-1)⟩ : Edge)] : List Edge)), v123, f124), ⟨rfl, trivial⟩, ⟨[], List.Perm.refl _⟩, (Option.some.inj hd3).symm, h125, trivial⟩
              · replace hd3 := sel_f e112 hd3; clear e112
                have g126 := (gd_some hd3).1; replace hd3 := (gd_some hd3).2
                have g127 := (gd_some hd3).1; replace hd3 := (gd_some hd3).2
                have g128 := (gd_some hd3).1; replace hd3 := (gd_some hd3).2
                have g129 := (gd_some hd3).1; replace hd3 := (gd_some hd3).2
                have g130 := (gd_some hd3).1; replace hd3 := (gd_some hd3).2
                refine wg_drawn 14 [] [phX v61, phX (.int .i64 o72), phX (.int .i64 (o72 / 4)), phX (.int .i64 ((1 : Int) + (x.states % 6))), phX (.int .i64 ((o72 / 4) % ((1 : Int) + (x.states % 6)))), phX (.int .i64 o72), phX (.int .i64 (o72 / 4)), phX (.int .i64 ((1 : Int) + (x.states % 6))), phX (.int .i64 ((o72 / 4) / ((1 : Int) + (x.states % 6)))), phX (.pointer (some ⟨b28, 1, none⟩)), phX (.int .i64 ((1 : Int) + (x.outs % 3))), phX (.int .i64 (((o72 / 4) / ((1 : Int) + (x.states % 6))) % ((1 : Int) + (x.outs % 3)))), phX (.agg #[(.int .i64 ((o72 / 4) % ((1 : Int) + (x.states % 6)))), (.int .i64 (((o72 / 4) / ((1 : Int) + (x.states % 6))) % ((1 : Int) + (x.outs % 3))))]), phR (tSl true kEdge) ([(⟨(o72 / 4) % ((1 : Int) + (x.states % 6)), ((o72 / 4) / ((1 : Int) + (x.states % 6))) % ((1 : Int) + (x.outs % 3))⟩ : Edge)] : List Edge)] mixed (by kernel_rfl) (monoOk_of ⟨mono_x, mono_x, mono_x, mono_x, mono_x, mono_x, mono_x, mono_x, mono_x, mono_x, mono_x, mono_x, mono_x, mono_r, trivial⟩) ⟨?_, ?_, ?_, ?_, ?_, ?_, ?_, ?_, ?_, ?_, ?_, ?_, ?_, ?_, trivial⟩ fun R131 le132 => ?_
                · intro l R0q hle ha hd
                  have a6 : l 6 = v61 := ha 6 rfl
                  exact gstep_plain rfl rfl rfl (ph_val (val_move a6))
                · intro l R1q hle ha hd
                  have a8 : l 8 = (.int .i64 o72) := ha 8 rfl
                  exact gstep_plain rfl rfl rfl (ph_val (val_move a8))
                · intro l R2q hle ha hd
                  obtain ⟨d0, _⟩ := hd
                  have f66 : l 66 = (.int .i64 o72) := d0 rfl
                  exact gstep_plain rfl rfl rfl (ph_val (val_quo0 f66 rfl g126))
                · intro l R3q hle ha hd
                  have a3 : l 3 = (.int .i64 ((1 : Int) + (x.states % 6))) := ha 3 rfl
                  exact gstep_plain rfl rfl rfl (ph_val (val_move a3))
                · intro l R4q hle ha hd
                  obtain ⟨d0, d1, _⟩ := hd
                  have f67 : l 67 = (.int .i64 (o72 / 4)) := d0 rfl
                  have f68 : l 68 = (.int .i64 ((1 : Int) + (x.states % 6))) := d1 rfl
                  exact gstep_plain rfl rfl rfl (ph_val (val_rem0 f67 f68 g127))
                · intro l R5q hle ha hd
                  have a8 : l 8 = (.int .i64 o72) := ha 8 rfl
                  exact gstep_plain rfl rfl rfl (ph_val (val_move a8))
                · intro l R6q hle ha hd
                  obtain ⟨d0, _⟩ := hd
                  have f70 : l 70 = (.int .i64 o72) := d0 rfl
                  exact gstep_plain rfl rfl rfl (ph_val (val_quo0 f70 rfl g128))
                · intro l R7q hle ha hd
                  have a3 : l 3 = (.int .i64 ((1 : Int) + (x.states % 6))) := ha 3 rfl
                  exact gstep_plain rfl rfl rfl (ph_val (val_move a3))
                · intro l R8q hle ha hd
                  obtain ⟨d0, d1, _⟩ := hd
                  have f71 : l 71 = (.int .i64 (o72 / 4)) := d0 rfl
                  have f72 : l 72 = (.int .i64 ((1 : Int) + (x.states % 6))) := d1 rfl
                  exact gstep_plain rfl rfl rfl (ph_val (val_quo0 f71 f72 g129))
                · intro l R9q hle ha hd
                  have a4 : l 4 = (.pointer (some ⟨b28, 0, none⟩)) := ha 4 rfl
                  exact gstep_plain rfl rfl rfl (ph_val (val_fieldB fd27_1 a4))
                · intro l R10q hle ha hd
                  obtain ⟨d0, _⟩ := hd
                  have f74 : l 74 = (.pointer (some ⟨b28, 1, none⟩)) := d0 rfl
                  exact gstep_plain rfl rfl rfl (ph_val (val_loadB (i := 1) ag3 f74 rfl rfl))
                · intro l R11q hle ha hd
                  obtain ⟨d0, d1, _⟩ := hd
                  have f73 : l 73 = (.int .i64 ((o72 / 4) / ((1 : Int) + (x.states % 6)))) := d0 rfl
                  have f75 : l 75 = (.int .i64 ((1 : Int) + (x.outs % 3))) := d1 rfl
                  exact gstep_plain rfl rfl rfl (ph_val (val_rem0 f73 f75 g130))
                · intro l R12q hle ha hd
                  obtain ⟨d0, d1, _⟩ := hd
                  have f69 : l 69 = (.int .i64 ((o72 / 4) % ((1 : Int) + (x.states % 6)))) := d0 rfl
                  have f76 : l 76 = (.int .i64 (((o72 / 4) / ((1 : Int) + (x.states % 6))) % ((1 : Int) + (x.outs % 3)))) := d1 rfl
                  exact gstep_plain rfl rfl rfl (ph_val (val_buildL (ps := [(0, (.int .i64 ((o72 / 4) % ((1 : Int) + (x.states % 6))))), (1, (.int .i64 (((o72 / 4) / ((1 : Int) + (x.states % 6))) % ((1 : Int) + (x.outs % 3)))))]) (v := (.agg #[(.int .i64 ((o72 / 4) % ((1 : Int) + (x.states % 6)))), (.int .i64 (((o72 / 4) / ((1 : Int) + (x.states % 6))) % ((1 : Int) + (x.outs % 3))))])) (by simp only [List.map, ev, f69, f76] <;> rfl) (fun w => by kernel_rfl)))
                · intro l R13q hle ha hd
                  obtain ⟨d0, _⟩ := hd
                  have f77 : l 77 = (.agg #[(.int .i64 ((o72 / 4) % ((1 : Int) + (x.states % 6)))), (.int .i64 (((o72 / 4) / ((1 : Int) + (x.states % 6))) % ((1 : Int) + (x.outs % 3))))]) := d0 rfl
                  exact gstep_plain rfl rfl rfl (ph_litT (T := kEdge) (X := ([(⟨(o72 / 4) % ((1 : Int) + (x.states % 6)), ((o72 / 4) / ((1 : Int) + (x.states % 6))) % ((1 : Int) + (x.outs % 3))⟩ : Edge)] : List Edge)) (ps := [(0, (.agg #[(.int .i64 ((o72 / 4) % ((1 : Int) + (x.states % 6)))), (.int .i64 (((o72 / 4) / ((1 : Int) + (x.states % 6))) % ((1 : Int) + (x.outs % 3))))]))]) (css := [[(.int .i64 ((o72 / 4) % ((1 : Int) + (x.states % 6)))), (.int .i64 (((o72 / 4) / ((1 : Int) + (x.states % 6))) % ((1 : Int) + (x.outs % 3))))]]) Try.underlying50 zo49 (by simp only [List.map, ev, f77] <;> rfl) rfl (lit_reps ⟨⟨_, _, rfl, rfl, rfl⟩, trivial⟩) rfl rfl (by decide))
                intro v133 h134
                intro v135 h136
                intro v137 h138
                intro v139 h140
                intro v141 h142
                intro v143 h144
                intro v145 h146
                intro v147 h148
                intro v149 h150
                intro v151 h152
                intro v153 h154
                intro v155 h156
                intro v157 h158
                intro v159 h160
                obtain rfl := Eq.symm h134
                obtain rfl := Eq.symm h136
                obtain rfl := Eq.symm h138
                obtain rfl := Eq.symm h140
                obtain rfl := Eq.symm h142
                obtain rfl := Eq.symm h144
                obtain rfl := Eq.symm h146
                obtain rfl := Eq.symm h148
                obtain rfl := Eq.symm h150
                obtain rfl := Eq.symm h152
                obtain rfl := Eq.symm h154
                obtain rfl := Eq.symm h156
                obtain rfl := Eq.symm h158
                have g161 := (gd_some hd3).1; replace hd3 := (gd_some hd3).2
                refine wo_append (i := 3) (X := x57) (Y := ([(⟨(o72 / 4) % ((1 : Int) + (x.states % 6)), ((o72 / 4) / ((1 : Int) + (x.states % 6))) % ((1 : Int) + (x.outs % 3))⟩ : Edge)] : List Edge)) rfl Try.underlying50 zo49 rfl rfl rfl (h63.mono ((le74.trans le97).trans le132)) (sl_s (Sub.v (B := (tSl false kEdge)) (sub_sl Sub.refl (fun _ => rfl)) h160)) g161.1 g161.2 fun v162 f163 h164 => ?_
                refine wo_v rfl (val_assign (v := v162) rfl) ?_
                refine wo_nil ?_
                exact ⟨(fun _ => rfl), ((le74.trans le97).trans le132), (by repeat (first | exact off_self | refine off_upd rfl ?_ | refine off_setl rfl ?_ | refine off_mask_sub rfl ?_)), ((x57 ++ ([(⟨(o72 / 4) % ((1 : Int) + (x.states % 6)), ((o72 / 4) / ((1 : Int) + (x.states % 6))) % ((1 : Int) + (x.outs % 3))⟩ : Edge)] : List Edge)), v162, f163), ⟨rfl, trivial⟩, ⟨[], List.Perm.refl _⟩, (Option.some.inj hd3).symm, h164, trivial⟩
          ·
            rintro ⟨o66, v69, f70⟩ j165 D166 R67 hD167 le68 ⟨rfl, h71, _⟩
            obtain rfl := hD167 rfl
            refine wg_region ?_
            refine wo_v rfl (val_move (v := (.int .i64 x58)) rfl) ?_
            have g168 := (gd_some hd2).1; replace hd2 := (gd_some hd2).2
            refine wo_v rfl (val_add rfl rfl g168) ?_
            refine wo_v rfl (val_assign (v := (.int .i64 (x58 + 1))) rfl) ?_
            refine wo_nil ?_
            exact ⟨(fun _ => rfl), le68, (by repeat (first | exact off_self | refine off_upd rfl ?_ | refine off_setl rfl ?_ | refine off_mask_sub rfl ?_)), (F56, o66, x58 + 1, v69, f70), Nat.lt_succ_self _, ⟨rfl, rfl, trivial⟩, ⟨[], List.Perm.refl _⟩, hd2, h71, trivial⟩
        · replace hd2 := sel_f e65 hd2; clear e65
          refine wg_exit ?_
          exact ⟨(fun _ => rfl), le60, (by repeat (first | exact off_self | refine off_upd rfl ?_ | refine off_setl rfl ?_ | refine off_mask_sub rfl ?_)), (x57, v61, f62), ⟨rfl, trivial⟩, ⟨[], List.Perm.refl _⟩, (Option.some.inj hd2).symm, h63, trivial⟩
      ·
        rintro ⟨o48, v51, f52⟩ j172 D173 R49 hD174 le50 ⟨rfl, h53, _⟩
        obtain rfl := hD174 rfl
        refine wg_region ?_
        refine wo_v rfl (val_fieldB fd27_2 rfl) ?_
        refine wo_v rfl (val_loadB (i := 1) ag25 rfl rfl rfl) ?_
        refine wo_v rfl (val_move (v := v51) rfl) ?_
        refine wo_freeze (i := 3) rfl h53 fun R175 le176 h177 => ?_
        have h178 : VRep (tSl false kEdge) R175 v51 o48 := (sl_f h177)
        refine wo_lit (T := (tSl false kEdge)) (X := ([o48] : List (List Edge))) (ps := [(0, v51)]) (css := [[v51]]) rfl Try.underlying25 zo50 rfl (by simp only [List.map_cons, List.map_nil, sl_cells h178]; rfl) (lit_reps ⟨(rep_one rfl h178), trivial⟩) rfl rfl (by decide) fun v179 f180 cap181 h182 => ?_
        refine wo_freeze (i := 0) rfl h182 fun R184 le185 h186 => ?_
        have h187 : VRep (tSl true (tSl false kEdge)) R184 v179 ([o48] : List (List Edge)) := (sl_t h186 cap181)
        have g188 := (gd_some hd1).1; replace hd1 := (gd_some hd1).2
        refine wo_append (i := 2) (X := x40) (Y := ([o48] : List (List Edge))) rfl Try.underlying25 zo50 rfl rfl rfl (h45.mono ((le50.trans le176).trans le185)) (sl_s (Sub.v (B := (tSl false (tSl false kEdge))) (sub_sl Sub.refl (fun _ => rfl)) h187)) g188.1 g188.2 fun v189 f190 h191 => ?_
        refine wo_v rfl (val_fieldB fd27_2 rfl) ?_
        refine wo_store (i := 1) (vs := [v189]) sz25 rfl rfl (orep_cells h191) rfl rfl rfl (one_cons (orep_one h191) one_nil) ?_
        refine wo_nil ?_
        refine wg_region ?_
        refine wo_v rfl (val_move (v := (.int .i64 x39)) rfl) ?_
        have g192 := (gd_some hd1).1; replace hd1 := (gd_some hd1).2
        refine wo_v rfl (val_add rfl rfl g192) ?_
        refine wo_v rfl (val_assign (v := (.int .i64 (x39 + 1))) rfl) ?_
        refine wo_nil ?_
        exact ⟨(fun _ => rfl), ((le50.trans le176).trans le185), (by repeat (first | exact off_self | refine off_upd rfl ?_ | refine off_setl rfl ?_ | refine off_mask_sub rfl ?_)), (F38, x39 + 1, (x40 ++ ([o48] : List (List Edge))), v189, f190), Nat.lt_succ_self _, ⟨rfl, trivial⟩, ⟨[], List.Perm.refl _⟩, hd1, h191, trivial⟩
    · replace hd1 := sel_f e47 hd1; clear e47
      refine wg_exit ?_
      exact ⟨(fun _ => rfl), le42, (by repeat (first | exact off_self | refine off_upd rfl ?_ | refine off_setl rfl ?_ | refine off_mask_sub rfl ?_)), (x40, v43, f44), trivial, ⟨[], List.Perm.refl _⟩, (Option.some.inj hd1).symm, h45, trivial⟩
  ·
    rintro ⟨o30, v33, f34⟩ j196 D197 R31 hD198 le32 ⟨rfl, h35, _⟩
    obtain rfl := hD198 rfl
    refine wg_seq ?_
    refine wg_region ?_
    refine wo_v rfl (val_loadBA (i := 1) ag27 sz27 rfl rfl rfl rfl) ?_
    refine wo_store (i := 0) (vs := [(.int .i64 ((1 : Int) + (x.ins % 3))), (.int .i64 ((1 : Int) + (x.outs % 3))), v33]) sz27 rfl rfl rfl rfl rfl rfl (one_cons rfl (one_cons rfl (one_cons (orep_one h35) one_nil))) ?_
    refine wo_nil ?_
    refine wg_freeze (i := 2) rfl h35 fun R199 le200 h201 => ?_
    have h202 : VRep (tSl false (tSl false kEdge)) R199 v33 o30 := (sl_f h201)
    refine wg_ret ?_
    obtain rfl := Option.some.inj hd0
    refine body_end (D := []) (J := [box b5 [(.int .i64 ((1 : Int) + (x.ins % 3))), (.int .i64 ((1 : Int) + (x.outs % 3))), v33] 27, box b28 [(.int .i64 ((1 : Int) + (x.ins % 3))), (.int .i64 ((1 : Int) + (x.outs % 3))), v33] 27]) (rs := [.cell 2 27]) (vs := [(.agg #[(.int .i64 ((1 : Int) + (x.ins % 3))), (.int .i64 ((1 : Int) + (x.outs % 3))), v33])]) ((le4.trans le32).trans le200) rfl rfl ⟨⟨_, rfl, fun w hh => run_cellA (i := 0) hh rfl rfl ag27 sz27 rfl rfl⟩, trivial⟩ ?_
    exact ⟨rfl, (⟨_, ⟨_, _, rfl, rfl, ⟨_, _, rfl, rfl, (rep_one rfl h202)⟩⟩, rfl⟩ : VRep (kMach false false) _ _ (⟨(1 : Int) + (x.ins % 3), (1 : Int) + (x.outs % 3), o30⟩ : Mach))⟩
theorem en11 : Enters Try.prog 11 := enters_of Try.func11 rfl (by kernel_rfl)
end GV
end Go.Proofs.Ytncblcdhmcmkmaa
