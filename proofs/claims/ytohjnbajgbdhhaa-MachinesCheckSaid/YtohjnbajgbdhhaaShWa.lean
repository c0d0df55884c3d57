/- The walks of the functions; printed. -/
import Derived.Test.YtohjnbajgbdhhaaShPlain
import Derived.Test.YtohjnbajgbdhhaaRows
namespace Go.Proofs.Ytohjnbajgbdhhaa
namespace GV
open Go.IntWalk
set_option linter.unusedVariables false
set_option linter.unusedSimpArgs false
set_option maxRecDepth 100000
set_option maxHeartbeats 2000000
theorem ty24 {b0 : Bool} : TyOk Try.prog 24 (kMDat b0) := by
  obtain ⟨i, hi, hs⟩ : ∃ i, Try.prog.info? 24 = some i ∧ i.size = 5 := info_size (by kernel_rfl)
  exact tyOk_of Try.underlying24 hi rfl hs
theorem za27 : ∀ w, ∃ z, (zeroValue 27).run Try.prog w = .ok z w ∧ z.cells = ([.int .i64 0, .int .i64 0, .slice none 0 0] : List Value).toArray := fun w => ⟨(.agg #[(.int .i64 0), (.int .i64 0), (.slice none 0 0)]), by kernel_rfl, rfl⟩
theorem fd24_0 : FieldOk Try.prog 24 0 0 := by
  obtain ⟨i, hi, hs⟩ : ∃ i, Try.prog.info? 5 = some i ∧ i.size = 1 := info_size (by kernel_rfl)
  exact fieldOk_of Try.underlying24 rfl rfl hi (by rw [hs]; rfl)
theorem ty5 : TyOk Try.prog 5 (tInt .u8) := by
  obtain ⟨i, hi, hs⟩ : ∃ i, Try.prog.info? 5 = some i ∧ i.size = 1 := info_size (by kernel_rfl)
  exact tyOk_of Try.underlying5 hi rfl hs
theorem fd24_1 : FieldOk Try.prog 24 1 1 := by
  obtain ⟨i, hi, hs⟩ : ∃ i, Try.prog.info? 5 = some i ∧ i.size = 1 := info_size (by kernel_rfl)
  exact fieldOk_of Try.underlying24 rfl rfl hi (by rw [hs]; rfl)
theorem fd24_2 : FieldOk Try.prog 24 2 2 := by
  obtain ⟨i, hi, hs⟩ : ∃ i, Try.prog.info? 5 = some i ∧ i.size = 1 := info_size (by kernel_rfl)
  exact fieldOk_of Try.underlying24 rfl rfl hi (by rw [hs]; rfl)
theorem sz27 : ∀ w, (sizeOf 27).run Try.prog w = .ok 3 w := fun w => by kernel_rfl
theorem fd27_0 : FieldOk Try.prog 27 0 0 := by
  obtain ⟨i, hi, hs⟩ : ∃ i, Try.prog.info? 3 = some i ∧ i.size = 1 := info_size (by kernel_rfl)
  exact fieldOk_of Try.underlying27 rfl rfl hi (by rw [hs]; rfl)
theorem ag3 : ∀ w, (isAgg 3).run Try.prog w = .ok false w := fun w => by kernel_rfl
theorem fd24_4 : FieldOk Try.prog 24 4 4 := by
  obtain ⟨i, hi, hs⟩ : ∃ i, Try.prog.info? 22 = some i ∧ i.size = 1 := info_size (by kernel_rfl)
  exact fieldOk_of Try.underlying24 rfl rfl hi (by rw [hs]; rfl)
theorem ty22 {b0 : Bool} : TyOk Try.prog 22 (tSl b0 (tInt .u16)) := by
  obtain ⟨i, hi, hs⟩ : ∃ i, Try.prog.info? 22 = some i ∧ i.size = 1 := info_size (by kernel_rfl)
  exact tyOk_of Try.underlying22 hi rfl hs
theorem ty75 : TyOk Try.prog 75 (tInt .u16) := by
  obtain ⟨i, hi, hs⟩ : ∃ i, Try.prog.info? 75 = some i ∧ i.size = 1 := info_size (by kernel_rfl)
  exact tyOk_of Try.underlying75 hi rfl hs
theorem sl22 : SlOk Try.prog 22 75 (tInt .u16) := ⟨Try.underlying22, ty75⟩
theorem fd24_3 : FieldOk Try.prog 24 3 3 := by
  obtain ⟨i, hi, hs⟩ : ∃ i, Try.prog.info? 4 = some i ∧ i.size = 1 := info_size (by kernel_rfl)
  exact fieldOk_of Try.underlying24 rfl rfl hi (by rw [hs]; rfl)
theorem ty4 : TyOk Try.prog 4 tBool := by
  obtain ⟨i, hi, hs⟩ : ∃ i, Try.prog.info? 4 = some i ∧ i.size = 1 := info_size (by kernel_rfl)
  exact tyOk_of Try.underlying4 hi rfl hs
theorem zo40 : ZeroOk Try.prog 40 kEdge (⟨(0 : Int), (0 : Int)⟩ : Edge) 16 := by
  obtain ⟨i, zv, hi, hz, hs, hb, hv⟩ := info_zero (P := Try.prog) (e := 40) (zv := (.agg #[(.int .i64 0), (.int .i64 0)])) (k := 2) (b := 16) (by kernel_rfl)
  exact ⟨i, zv, hi, hz, hs, hb, fun R => by subst hv; exact ⟨_, _, rfl, rfl, rfl⟩⟩
theorem fd27_1 : FieldOk Try.prog 27 1 1 := by
  obtain ⟨i, hi, hs⟩ : ∃ i, Try.prog.info? 3 = some i ∧ i.size = 1 := info_size (by kernel_rfl)
  exact fieldOk_of Try.underlying27 rfl rfl hi (by rw [hs]; rfl)
theorem mixed : Try.prog.follows .mixedOrders = true := by kernel_rfl
theorem fd27_2 : FieldOk Try.prog 27 2 2 := by
  obtain ⟨i, hi, hs⟩ : ∃ i, Try.prog.info? 25 = some i ∧ i.size = 1 := info_size (by kernel_rfl)
  exact fieldOk_of Try.underlying27 rfl rfl hi (by rw [hs]; rfl)
theorem ag25 : ∀ w, (isAgg 25).run Try.prog w = .ok false w := fun w => by kernel_rfl
theorem zo41 {b0 : Bool} : ZeroOk Try.prog 41 (tSl b0 kEdge) ([] : List Edge) 24 := by
  obtain ⟨i, zv, hi, hz, hs, hb, hv⟩ := info_zero (P := Try.prog) (e := 41) (zv := (.slice none 0 0)) (k := 1) (b := 24) (by kernel_rfl)
  exact ⟨i, zv, hi, hz, hs, hb, fun R => by subst hv; exact (rep_one rfl sl_nil)⟩
theorem sz25 : ∀ w, (sizeOf 25).run Try.prog w = .ok 1 w := fun w => by kernel_rfl
theorem ag27 : ∀ w, (isAgg 27).run Try.prog w = .ok true w := fun w => by kernel_rfl
theorem c_gauntletlaw04_M_Of {N : Nat} {R : RH} {x : MDat} {v_x : Value} (h_x : VRep (kMDat false) R v_x x) {r : Mach} (hd0 : gauntletlaw04_M_Of N x = some r) : CallP Try.prog 10 #[v_x] R (fun v R' => VRep (kMach false false) R' v r) := by
  refine callP_of_wg (args := [v_x]) Try.func10 rfl rfl fun A => ?_
  rw [gauntletlaw04_M_Of] at hd0
  refine wg_seq ?_
  refine wg_region ?_
  refine wo_boxR (T := (kMDat false)) rfl rfl h_x fun v1 R3 le4 h2 => ?_
  refine wo_alloc rfl za27 fun b5 => ?_
  refine wo_nil ?_
  refine wg_seq ?_
  refine wg_region ?_
  refine wo_fieldR rfl fd24_0 pt_MDat0 rfl h2 fun v7 h8 => ?_
  refine wo_loadR rfl ty5 rfl h8 fun v9 h10 => ?_
  obtain rfl := vrep_int.1 h10
  have g11 := (gd_some hd0).1; replace hd0 := (gd_some hd0).2
  refine wo_v rfl (val_rem0 rfl rfl g11) ?_
  have g12 := (gd_some hd0).1; replace hd0 := (gd_some hd0).2
  refine wo_v rfl (val_conv64 Try.underlying5 Try.underlying3 rfl g12) ?_
  have g13 := (gd_some hd0).1; replace hd0 := (gd_some hd0).2
  refine wo_v rfl (val_add rfl rfl g13) ?_
  refine wo_v rfl (val_assign (v := (.int .i64 ((1 : Int) + (x.states % 6)))) rfl) ?_
  refine wo_nil ?_
  refine wg_seq ?_
  refine wg_region ?_
  refine wo_fieldR rfl fd24_1 pt_MDat1 rfl h2 fun v14 h15 => ?_
  refine wo_loadR rfl ty5 rfl h15 fun v16 h17 => ?_
  obtain rfl := vrep_int.1 h17
  have g18 := (gd_some hd0).1; replace hd0 := (gd_some hd0).2
  refine wo_v rfl (val_rem0 rfl rfl g18) ?_
  have g19 := (gd_some hd0).1; replace hd0 := (gd_some hd0).2
  refine wo_v rfl (val_conv64 Try.underlying5 Try.underlying3 rfl g19) ?_
  have g20 := (gd_some hd0).1; replace hd0 := (gd_some hd0).2
  refine wo_v rfl (val_add rfl rfl g20) ?_
  refine wo_fieldR rfl fd24_2 pt_MDat2 rfl h2 fun v21 h22 => ?_
  refine wo_loadR rfl ty5 rfl h22 fun v23 h24 => ?_
  obtain rfl := vrep_int.1 h24
  have g25 := (gd_some hd0).1; replace hd0 := (gd_some hd0).2
  refine wo_v rfl (val_rem0 rfl rfl g25) ?_
  have g26 := (gd_some hd0).1; replace hd0 := (gd_some hd0).2
  refine wo_v rfl (val_conv64 Try.underlying5 Try.underlying3 rfl g26) ?_
  have g27 := (gd_some hd0).1; replace hd0 := (gd_some hd0).2
  refine wo_v rfl (val_add rfl rfl g27) ?_
  refine wo_v rfl (val_buildL (ps := [(0, (.int .i64 ((1 : Int) + (x.ins % 3)))), (1, (.int .i64 ((1 : Int) + (x.outs % 3))))]) (v := (.agg #[(.int .i64 ((1 : Int) + (x.ins % 3))), (.int .i64 ((1 : Int) + (x.outs % 3))), (.slice none 0 0)])) rfl (fun w => by kernel_rfl)) ?_
  refine wo_alloc rfl za27 fun b28 => ?_
  refine wo_store (i := 0) (vs := [(.int .i64 ((1 : Int) + (x.ins % 3))), (.int .i64 ((1 : Int) + (x.outs % 3))), (.slice none 0 0)]) sz27 rfl rfl rfl rfl rfl rfl (one_cons rfl (one_cons rfl (one_cons rfl one_nil))) ?_
  refine wo_nil ?_
  replace hd0 := bd_some hd0; obtain ⟨o30, hd1, hd0⟩ := hd0
  refine wg_meet (γ := (List (List Edge)) × Value × Frag) true [5, 26, 27, 28, 6, 7, 31, 32, 33, 34, 8, 37, 38, 39, 40, 41, 42, 9, 43, 44, 45, 46, 47, 48, 49, 50, 51, 52, 53, 54, 55, 56, 57, 58, 59, 60, 61, 62, 63, 64, 65, 66, 67, 68, 69, 70, 71, 72, 73, 74, 75, 76, 77, 78, 79, 35, 36, 80, 81, 82, 83, 84, 85, 29, 30] (fun g => []) (fun g => [box b5 [(.int .i64 0), (.int .i64 0), (.slice none 0 0)] 27, box b28 [(.int .i64 ((1 : Int) + (x.ins % 3))), (.int .i64 ((1 : Int) + (x.outs % 3))), g.2.1] 27, g.2.2] ++ A) (fun g R => o30 = g.1 ∧ ORep (tSl false kEdge) R g.2.2 g.2.1 g.1 ∧ True) ?_ ?_
  ·
    refine wg_seq ?_
    refine wg_region ?_
    refine wo_v rfl (val_assign (v := (.int .i64 0)) rfl) ?_
    refine wo_nil ?_
    refine wg_block ?_
    refine wg_emp ?_
    refine wg_loopS (γ := Nat × Int × (List (List Edge)) × Value × Frag) true [26, 27, 28, 6, 7, 31, 32, 33, 34, 8, 37, 38, 39, 40, 41, 42, 9, 43, 44, 45, 46, 47, 48, 49, 50, 51, 52, 53, 54, 55, 56, 57, 58, 59, 60, 61, 62, 63, 64, 65, 66, 67, 68, 69, 70, 71, 72, 73, 74, 75, 76, 77, 78, 79, 35, 36, 80, 81, 82, 83, 84, 85, 29, 30, 5] (fun g => [(5, (.int .i64 g.2.1))]) (fun g => [box b5 [(.int .i64 0), (.int .i64 0), (.slice none 0 0)] 27, box b28 [(.int .i64 ((1 : Int) + (x.ins % 3))), (.int .i64 ((1 : Int) + (x.outs % 3))), g.2.2.2.1] 27, g.2.2.2.2] ++ A) (fun g R => gauntletlaw04_M_Of_L1 N x g.1 g.2.1 g.2.2.1 = some o30 ∧ ORep (tSl false kEdge) R g.2.2.2.2 g.2.2.2.1 g.2.2.1 ∧ True) (fun g => g.1) (N, 0, ([] : List (List Edge)), (.slice none 0 0), emp) ⟨rfl, trivial⟩ ⟨[], (pk 2 rfl (pk 1 rfl (pk 0 rfl (List.Perm.refl _))))⟩ ⟨hd1, (orep_emp (T := (tSl false kEdge))), trivial⟩ (fun _ => rfl) ?_
    clear hd1
    rintro ⟨F38, x39, x40, v43, f44⟩ j193 D194 R41 hD195 le42 ⟨hd1, h45, _⟩
    obtain rfl := hD195 rfl
    rcases F38 with _ | F38
    · exact none_elim hd1
    replace hd1 : gauntletlaw04_M_Of_L1 N x (F38 + 1) x39 x40 = some o30 := hd1; rw [gauntletlaw04_M_Of_L1] at hd1
    refine wg_seq ?_
    refine wg_seq ?_
    refine wg_region ?_
    refine wo_v rfl (val_move (v := (.int .i64 x39)) rfl) ?_
    refine wo_v rfl (val_move (v := (.int .i64 ((1 : Int) + (x.states % 6)))) rfl) ?_
    refine wo_v rfl (val_lss rfl rfl) ?_
    refine wo_nil ?_
    refine wg_cond rfl (fun e47 => ?_) (fun e47 => ?_)
    · replace hd1 := sel_t e47 hd1; clear e47
      refine wg_skip ?_
      refine wg_seq ?_
      refine wg_block ?_
      refine wg_seq ?_
      refine wg_region ?_
      refine wo_v rfl (val_assign (v := (.slice none 0 0)) rfl) ?_
      refine wo_nil ?_
      replace hd1 := bd_some hd1; obtain ⟨o48, hd2, hd1⟩ := hd1
      refine wg_meet (γ := (List Edge) × Value × Frag) true [7, 31, 32, 33, 34, 8, 37, 38, 39, 40, 41, 42, 9, 43, 44, 45, 46, 47, 48, 49, 50, 51, 52, 53, 54, 55, 56, 57, 58, 59, 60, 61, 62, 63, 64, 6, 65, 66, 67, 68, 69, 70, 71, 72, 73, 74, 75, 76, 77, 78, 79, 35, 36] (fun g => [(6, g.2.1)]) (fun g => [box b5 [(.int .i64 0), (.int .i64 0), (.slice none 0 0)] 27, box b28 [(.int .i64 ((1 : Int) + (x.ins % 3))), (.int .i64 ((1 : Int) + (x.outs % 3))), v43] 27, f44, g.2.2] ++ A) (fun g R => o48 = g.1 ∧ ORep kEdge R g.2.2 g.2.1 g.1 ∧ True) ?_ ?_
      ·
        refine wg_seq ?_
        refine wg_region ?_
        refine wo_v rfl (val_assign (v := (.int .i64 0)) rfl) ?_
        refine wo_nil ?_
        refine wg_block ?_
        refine wg_emp ?_
        refine wg_loopS (γ := Nat × (List Edge) × Int × Value × Frag) true [31, 32, 33, 34, 8, 37, 38, 39, 40, 41, 42, 9, 43, 44, 45, 46, 47, 48, 49, 50, 51, 52, 53, 54, 55, 56, 57, 58, 59, 60, 61, 62, 63, 64, 6, 65, 66, 67, 68, 69, 70, 71, 72, 73, 74, 75, 76, 77, 78, 79, 35, 36, 7] (fun g => [(6, g.2.2.2.1), (7, (.int .i64 g.2.2.1))]) (fun g => [box b5 [(.int .i64 0), (.int .i64 0), (.slice none 0 0)] 27, box b28 [(.int .i64 ((1 : Int) + (x.ins % 3))), (.int .i64 ((1 : Int) + (x.outs % 3))), v43] 27, f44, g.2.2.2.2] ++ A) (fun g R => gauntletlaw04_M_Of_L2 N x x39 g.1 g.2.1 g.2.2.1 = some o48 ∧ ORep kEdge R g.2.2.2.2 g.2.2.2.1 g.2.1 ∧ True) (fun g => g.1) (N, ([] : List Edge), 0, (.slice none 0 0), emp) ⟨rfl, rfl, trivial⟩ ⟨[], (pk 1 rfl (pk 1 rfl (pk 1 rfl (pk 0 rfl (List.Perm.refl _)))))⟩ ⟨hd2, (orep_emp (T := kEdge)), trivial⟩ (fun _ => rfl) ?_
        clear hd2
        rintro ⟨F56, x57, x58, v61, f62⟩ j169 D170 R59 hD171 le60 ⟨hd2, h63, _⟩
        obtain rfl := hD171 rfl
        rcases F56 with _ | F56
        · exact none_elim hd2
        replace hd2 : gauntletlaw04_M_Of_L2 N x x39 (F56 + 1) x57 x58 = some o48 := hd2; rw [gauntletlaw04_M_Of_L2] at hd2
        refine wg_seq ?_
        refine wg_seq ?_
        refine wg_region ?_
        refine wo_v rfl (val_move (v := (.int .i64 x58)) rfl) ?_
        refine wo_v rfl (val_fieldB fd27_0 rfl) ?_
        refine wo_v rfl (val_loadB (i := 1) ag3 rfl rfl rfl) ?_
        refine wo_v rfl (val_lss rfl rfl) ?_
        refine wo_nil ?_
        refine wg_cond rfl (fun e65 => ?_) (fun e65 => ?_)
        · replace hd2 := sel_t e65 hd2; clear e65
          refine wg_skip ?_
          replace hd2 := bd_some hd2; obtain ⟨o66, hd3, hd2⟩ := hd2
          refine wg_meet (γ := (List Edge) × Value × Frag) true [8, 37, 38, 39, 40, 41, 42, 9, 43, 44, 45, 46, 47, 48, 49, 50, 51, 52, 53, 54, 55, 56, 57, 58, 59, 60, 61, 62, 63, 64, 6, 65, 66, 67, 68, 69, 70, 71, 72, 73, 74, 75, 76, 77, 78, 79] (fun g => [(6, g.2.1)]) (fun g => [box b5 [(.int .i64 0), (.int .i64 0), (.slice none 0 0)] 27, box b28 [(.int .i64 ((1 : Int) + (x.ins % 3))), (.int .i64 ((1 : Int) + (x.outs % 3))), v43] 27, f44, g.2.2] ++ A) (fun g R => o66 = g.1 ∧ ORep kEdge R g.2.2 g.2.1 g.1 ∧ True) ?_ ?_
          ·
            refine wg_block ?_
            refine wg_seq ?_
            refine wg_region ?_
            refine wo_v rfl (val_assign (v := (.int .i64 0)) rfl) ?_
            refine wo_nil ?_
            replace hd3 := bd_some hd3; obtain ⟨o72, hd4, hd3⟩ := hd3
            refine wg_meet (γ := Int) true [37, 38, 39, 40, 41, 42, 9, 43, 44, 45, 46, 47, 48, 49, 50, 51, 52, 53, 8] (fun g => [(8, (.int .i64 g))]) (fun g => [box b5 [(.int .i64 0), (.int .i64 0), (.slice none 0 0)] 27, box b28 [(.int .i64 ((1 : Int) + (x.ins % 3))), (.int .i64 ((1 : Int) + (x.outs % 3))), v43] 27, f44, f62] ++ A) (fun g R => o72 = g ∧ True) ?_ ?_
            ·
              refine wg_seq ?_
              refine wg_region ?_
              refine wo_v rfl (val_move (v := (.int .i64 x39)) rfl) ?_
              refine wo_v rfl (val_fieldB fd27_0 rfl) ?_
              refine wo_v rfl (val_loadB (i := 1) ag3 rfl rfl rfl) ?_
              have g75 := (gd_some hd4).1; replace hd4 := (gd_some hd4).2
              refine wo_v rfl (val_mul rfl rfl g75) ?_
              refine wo_v rfl (val_move (v := (.int .i64 x58)) rfl) ?_
              have g76 := (gd_some hd4).1; replace hd4 := (gd_some hd4).2
              refine wo_v rfl (val_add rfl rfl g76) ?_
              refine wo_v rfl (val_assign (v := (.int .i64 ((x39 * ((1 : Int) + (x.ins % 3))) + x58))) rfl) ?_
              refine wo_nil ?_
              refine wg_seq ?_
              refine wg_region ?_
              refine wo_v rfl (val_move (v := (.int .i64 ((x39 * ((1 : Int) + (x.ins % 3))) + x58))) rfl) ?_
              refine wo_fieldR rfl fd24_4 pt_MDat4 rfl (h2.mono (le42.trans le60)) fun v77 h78 => ?_
              refine wo_loadR rfl ty22 rfl h78 fun v79 h80 => ?_
              refine wo_v rfl (val_lenR rfl Try.underlying22 rfl (sl_s h80)) ?_
              refine wo_v rfl (val_lss rfl rfl) ?_
              refine wo_nil ?_
              refine wg_cond rfl (fun e81 => ?_) (fun e81 => ?_)
              · replace hd4 := sel_t e81 hd4; clear e81
                refine wg_region ?_
                refine wo_fieldR rfl fd24_4 pt_MDat4 rfl (h2.mono (le42.trans le60)) fun v82 h83 => ?_
                refine wo_loadR rfl ty22 rfl h83 fun v84 h85 => ?_
                refine wo_v rfl (val_move (v := (.int .i64 ((x39 * ((1 : Int) + (x.ins % 3))) + x58))) rfl) ?_
                have g86 := (gd_some hd4).1; replace hd4 := (gd_some hd4).2
                refine wo_indexR (i := ((x39 * ((1 : Int) + (x.ins % 3))) + x58).toNat) rfl sl22 rfl (sl_s h85) (idx_nonneg rfl g86.1) (okI_lt g86) fun v87 h88 => ?_
                refine wo_loadR rfl ty75 rfl h88 fun v89 h90 => ?_
                obtain rfl := vrep_int.1 h90
                have g91 := (gd_some hd4).1; replace hd4 := (gd_some hd4).2
                refine wo_v rfl (val_conv64 Try.underlying75 Try.underlying3 rfl g91) ?_
                refine wo_v rfl (val_assign (v := (.int .i64 (ix x.edges ((x39 * ((1 : Int) + (x.ins % 3))) + x58)))) rfl) ?_
                refine wo_nil ?_
                exact ⟨(fun _ => rfl), (RH.le.refl _), (by repeat (first | exact off_self | refine off_upd rfl ?_ | refine off_setl rfl ?_ | refine off_mask_sub rfl ?_)), (ix x.edges ((x39 * ((1 : Int) + (x.ins % 3))) + x58)), ⟨rfl, trivial⟩, ⟨[], List.Perm.refl _⟩, (Option.some.inj hd4).symm, trivial⟩
              · replace hd4 := sel_f e81 hd4; clear e81
                refine wg_skip ?_
                exact ⟨(fun _ => rfl), (RH.le.refl _), (by repeat (first | exact off_self | refine off_upd rfl ?_ | refine off_setl rfl ?_ | refine off_mask_sub rfl ?_)), 0, ⟨rfl, trivial⟩, ⟨[], List.Perm.refl _⟩, (Option.some.inj hd4).symm, trivial⟩
            ·
              rintro o72 j92 D93 R73 hD94 le74 ⟨rfl, _⟩
              obtain rfl := hD94 rfl
              refine wg_seq ?_
              have g95 := (gd_some hd3).1; replace hd3 := (gd_some hd3).2
              refine wg_guarded 7 [] [phP tBool x.part, phX (.bool x.part), phX (.bool x.part), phG (true && (x.part == true)) (phX (.int .i64 o72)), phG (true && (x.part == true)) (phX (.int .i64 (o72 % 4))), phG (true && (x.part == true)) (phX (.bool (decide ((o72 % 4) = 3)))), phX (.bool (x.part && (decide ((o72 % 4) = 3))))] (by kernel_rfl) (by kernel_rfl) (monoOk_of ⟨mono_p, mono_x, mono_x, (mono_g mono_x), (mono_g mono_x), (mono_g mono_x), mono_x, trivial⟩) ⟨?_, ?_, ?_, ?_, ?_, ?_, ?_, trivial⟩ fun R96 le97 => ?_
              · intro l R0q hle ha hd
                have a1 : l 1 = v1 := ha 1 rfl
                exact gstep_plain rfl rfl rfl (ph_fieldR fd24_3 pt_MDat3 a1 ((h2.mono ((le42.trans le60).trans le74)).mono hle))
              · intro l R1q hle ha hd
                obtain ⟨d0, _⟩ := hd
                have f54 : phP tBool x.part (l 54) R1q := d0 rfl
                exact gstep_plain rfl rfl rfl (ph_exact (ph_loadR ty4 rfl f54) (fun _ _ h => vrep_bool.1 h))
              · intro l R2q hle ha hd
                obtain ⟨d0, _⟩ := hd
                have f55 : l 55 = (.bool x.part) := d0 rfl
                exact gstep_plain rfl rfl rfl (ph_val (val_move f55))
              · intro l R3q hle ha hd
                obtain ⟨d0, _⟩ := hd
                have a8 : l 8 = (.int .i64 o72) := ha 8 rfl
                exact gstep_guard (Gj := true) (Bj := x.part) rfl rfl rfl (gtrue (d0 rfl)) rfl (fun hG hB => ph_val (val_move a8))
              · intro l R4q hle ha hd
                obtain ⟨d0, d1, _⟩ := hd
                have f57g : phG (true && (x.part == true)) (phX (.int .i64 o72)) (l 57) R4q := d0 rfl
                exact gstep_guard (Gj := true) (Bj := x.part) rfl rfl rfl (gtrue (d1 rfl)) rfl (fun hG hB => ph_val (val_rem0 (show l 57 = (.int .i64 o72) from f57g.1 (gandT rfl hB)) rfl (g95 (gandT hG hB))))
              · intro l R5q hle ha hd
                obtain ⟨d0, d1, _⟩ := hd
                have f58g : phG (true && (x.part == true)) (phX (.int .i64 (o72 % 4))) (l 58) R5q := d0 rfl
                exact gstep_guard (Gj := true) (Bj := x.part) rfl rfl rfl (gtrue (d1 rfl)) rfl (fun hG hB => ph_val (val_eql (show l 58 = (.int .i64 (o72 % 4)) from f58g.1 (gandT rfl hB)) rfl))
              · intro l R6q hle ha hd
                obtain ⟨d0, d1, _⟩ := hd
                have f56 : l 56 = (.bool x.part) := d0 rfl
                have f59g : phG (true && (x.part == true)) (phX (.bool (decide ((o72 % 4) = 3)))) (l 59) R6q := d1 rfl
                exact gstep_plain rfl rfl rfl (ph_val (val_and f56 (fun hb => (show l 59 = (.bool (decide ((o72 % 4) = 3))) from f59g.1 (gandT rfl hb))) rfl))
              intro v98 h99
              intro v100 h101
              intro v102 h103
              intro v104 h105
              intro v106 h107
              intro v108 h109
              intro v110 h111
              obtain rfl := Eq.symm h101
              obtain rfl := Eq.symm h103
              obtain rfl := Eq.symm h111
              refine wo_nil ?_
              refine wg_cond rfl (fun e112 => ?_) (fun e112 => ?_)
              · replace hd3 := sel_t e112 hd3; clear e112
                refine wg_region ?_
                refine wo_v rfl (val_move (v := v61) rfl) ?_
                refine wo_v rfl (val_buildL (ps := [(0, (.int .i64 (-1))), (1, (.int .i64 (-1)))]) (v := (.agg #[(.int .i64 (-1)), (.int .i64 (-1))])) rfl (fun w => by kernel_rfl)) ?_
                refine wo_lit (T := kEdge) (X := ([(⟨(-1), (-1)⟩ : Edge)] : List Edge)) (ps := [(0, (.agg #[(.int .i64 (-1)), (.int .i64 (-1))]))]) (css := [[(.int .i64 (-1)), (.int .i64 (-1))]]) rfl Try.underlying41 zo40 rfl rfl (lit_reps ⟨⟨_, _, rfl, rfl, rfl⟩, trivial⟩) rfl rfl (by decide) fun v113 f114 cap115 h116 => ?_
                refine wo_freeze (i := 0) rfl h116 fun R118 le119 h120 => ?_
                have h121 : VRep (tSl true kEdge) R118 v113 ([(⟨(-1), (-1)⟩ : Edge)] : List Edge) := (sl_t h120 cap115)
                have g122 := (gd_some hd3).1; replace hd3 := (gd_some hd3).2
                refine wo_append (i := 3) (X := x57) (Y := ([(⟨(-1), (-1)⟩ : Edge)] : List Edge)) rfl Try.underlying41 zo40 rfl rfl rfl (h63.mono ((le74.trans le97).trans le119)) (sl_s (Sub.v (B := (tSl false kEdge)) (sub_sl Sub.refl (fun _ => rfl)) h121)) g122.1 g122.2 fun v123 f124 h125 => ?_
                refine wo_v rfl (val_assign (v := v123) rfl) ?_
                refine wo_nil ?_
                exact ⟨(fun _ => rfl), ((le74.trans le97).trans le119), (by repeat (first | exact off_self | refine off_upd rfl ?_ | refine off_setl rfl ?_ | refine off_mask_sub rfl ?_)), ((x57 ++ ([(⟨(-1), (-1)⟩ : Edge)] : List Edge)), v123, f124), ⟨rfl, trivial⟩, ⟨[], List.Perm.refl _⟩, (Option.some.inj hd3).symm, h125, trivial⟩
              · replace hd3 := sel_f e112 hd3; clear e112
                have g126 := (gd_some hd3).1; replace hd3 := (gd_some hd3).2
                have g127 := (gd_some hd3).1; replace hd3 := (gd_some hd3).2
                have g128 := (gd_some hd3).1; replace hd3 := (gd_some hd3).2
                have g129 := (gd_some hd3).1; replace hd3 := (gd_some hd3).2
                have g130 := (gd_some hd3).1; replace hd3 := (gd_some hd3).2
                refine wg_drawn 14 [] [phX v61, phX (.int .i64 o72), phX (.int .i64 (o72 / 4)), phX (.int .i64 ((1 : Int) + (x.states % 6))), phX (.int .i64 ((o72 / 4) % ((1 : Int) + (x.states % 6)))), phX (.int .i64 o72), phX (.int .i64 (o72 / 4)), phX (.int .i64 ((1 : Int) + (x.states % 6))), phX (.int .i64 ((o72 / 4) / ((1 : Int) + (x.states % 6)))), phX (.pointer (some ⟨b28, 1, none⟩)), phX (.int .i64 ((1 : Int) + (x.outs % 3))), phX (.int .i64 (((o72 / 4) / ((1 : Int) + (x.states % 6))) % ((1 : Int) + (x.outs % 3)))), phX (.agg #[(.int .i64 ((o72 / 4) % ((1 : Int) + (x.states % 6)))), (.int .i64 (((o72 / 4) / ((1 : Int) + (x.states % 6))) % ((1 : Int) + (x.outs % 3))))]), phR (tSl true kEdge) ([(⟨(o72 / 4) % ((1 : Int) + (x.states % 6)), ((o72 / 4) / ((1 : Int) + (x.states % 6))) % ((1 : Int) + (x.outs % 3))⟩ : Edge)] : List Edge)] mixed (by kernel_rfl) (monoOk_of ⟨mono_x, mono_x, mono_x, mono_x, mono_x, mono_x, mono_x, mono_x, mono_x, mono_x, mono_x, mono_x, mono_x, mono_r, trivial⟩) ⟨?_, ?_, ?_, ?_, ?_, ?_, ?_, ?_, ?_, ?_, ?_, ?_, ?_, ?_, trivial⟩ fun R131 le132 => ?_
                · intro l R0q hle ha hd
                  have a6 : l 6 = v61 := ha 6 rfl
                  exact gstep_plain rfl rfl rfl (ph_val (val_move a6))
                · intro l R1q hle ha hd
                  have a8 : l 8 = (.int .i64 o72) := ha 8 rfl
                  exact gstep_plain rfl rfl rfl (ph_val (val_move a8))
                · intro l R2q hle ha hd
                  obtain ⟨d0, _⟩ := hd
                  have f66 : l 66 = (.int .i64 o72) := d0 rfl
                  exact gstep_plain rfl rfl rfl (ph_val (val_quo0 f66 rfl g126))
                · intro l R3q hle ha hd
                  have a3 : l 3 = (.int .i64 ((1 : Int) + (x.states % 6))) := ha 3 rfl
                  exact gstep_plain rfl rfl rfl (ph_val (val_move a3))
                · intro l R4q hle ha hd
                  obtain ⟨d0, d1, _⟩ := hd
                  have f67 : l 67 = (.int .i64 (o72 / 4)) := d0 rfl
                  have f68 : l 68 = (.int .i64 ((1 : Int) + (x.states % 6))) := d1 rfl
                  exact gstep_plain rfl rfl rfl (ph_val (val_rem0 f67 f68 g127))
                · intro l R5q hle ha hd
                  have a8 : l 8 = (.int .i64 o72) := ha 8 rfl
                  exact gstep_plain rfl rfl rfl (ph_val (val_move a8))
                · intro l R6q hle ha hd
                  obtain ⟨d0, _⟩ := hd
                  have f70 : l 70 = (.int .i64 o72) := d0 rfl
                  exact gstep_plain rfl rfl rfl (ph_val (val_quo0 f70 rfl g128))
                · intro l R7q hle ha hd
                  have a3 : l 3 = (.int .i64 ((1 : Int) + (x.states % 6))) := ha 3 rfl
                  exact gstep_plain rfl rfl rfl (ph_val (val_move a3))
                · intro l R8q hle ha hd
                  obtain ⟨d0, d1, _⟩ := hd
                  have f71 : l 71 = (.int .i64 (o72 / 4)) := d0 rfl
                  have f72 : l 72 = (.int .i64 ((1 : Int) + (x.states % 6))) := d1 rfl
                  exact gstep_plain rfl rfl rfl (ph_val (val_quo0 f71 f72 g129))
                · intro l R9q hle ha hd
                  have a4 : l 4 = (.pointer (some ⟨b28, 0, none⟩)) := ha 4 rfl
                  exact gstep_plain rfl rfl rfl (ph_val (val_fieldB fd27_1 a4))
                · intro l R10q hle ha hd
                  obtain ⟨d0, _⟩ := hd
                  have f74 : l 74 = (.pointer (some ⟨b28, 1, none⟩)) := d0 rfl
                  exact gstep_plain rfl rfl rfl (ph_val (val_loadB (i := 1) ag3 f74 rfl rfl))
                · intro l R11q hle ha hd
                  obtain ⟨d0, d1, _⟩ := hd
                  have f73 : l 73 = (.int .i64 ((o72 / 4) / ((1 : Int) + (x.states % 6)))) := d0 rfl
                  have f75 : l 75 = (.int .i64 ((1 : Int) + (x.outs % 3))) := d1 rfl
                  exact gstep_plain rfl rfl rfl (ph_val (val_rem0 f73 f75 g130))
                · intro l R12q hle ha hd
                  obtain ⟨d0, d1, _⟩ := hd
                  have f69 : l 69 = (.int .i64 ((o72 / 4) % ((1 : Int) + (x.states % 6)))) := d0 rfl
                  have f76 : l 76 = (.int .i64 (((o72 / 4) / ((1 : Int) + (x.states % 6))) % ((1 : Int) + (x.outs % 3)))) := d1 rfl
                  exact gstep_plain rfl rfl rfl (ph_val (val_buildL (ps := [(0, (.int .i64 ((o72 / 4) % ((1 : Int) + (x.states % 6))))), (1, (.int .i64 (((o72 / 4) / ((1 : Int) + (x.states % 6))) % ((1 : Int) + (x.outs % 3)))))]) (v := (.agg #[(.int .i64 ((o72 / 4) % ((1 : Int) + (x.states % 6)))), (.int .i64 (((o72 / 4) / ((1 : Int) + (x.states % 6))) % ((1 : Int) + (x.outs % 3))))])) (by simp only [List.map, ev, f69, f76] <;> rfl) (fun w => by kernel_rfl)))
                · intro l R13q hle ha hd
                  obtain ⟨d0, _⟩ := hd
                  have f77 : l 77 = (.agg #[(.int .i64 ((o72 / 4) % ((1 : Int) + (x.states % 6)))), (.int .i64 (((o72 / 4) / ((1 : Int) + (x.states % 6))) % ((1 : Int) + (x.outs % 3))))]) := d0 rfl
                  exact gstep_plain rfl rfl rfl (ph_litT (T := kEdge) (X := ([(⟨(o72 / 4) % ((1 : Int) + (x.states % 6)), ((o72 / 4) / ((1 : Int) + (x.states % 6))) % ((1 : Int) + (x.outs % 3))⟩ : Edge)] : List Edge)) (ps := [(0, (.agg #[(.int .i64 ((o72 / 4) % ((1 : Int) + (x.states % 6)))), (.int .i64 (((o72 / 4) / ((1 : Int) + (x.states % 6))) % ((1 : Int) + (x.outs % 3))))]))]) (css := [[(.int .i64 ((o72 / 4) % ((1 : Int) + (x.states % 6)))), (.int .i64 (((o72 / 4) / ((1 : Int) + (x.states % 6))) % ((1 : Int) + (x.outs % 3))))]]) Try.underlying41 zo40 (by simp only [List.map, ev, f77] <;> rfl) rfl (lit_reps ⟨⟨_, _, rfl, rfl, rfl⟩, trivial⟩) rfl rfl (by decide))
                intro v133 h134
                intro v135 h136
                intro v137 h138
                intro v139 h140
                intro v141 h142
                intro v143 h144
                intro v145 h146
                intro v147 h148
                intro v149 h150
                intro v151 h152
                intro v153 h154
                intro v155 h156
                intro v157 h158
                intro v159 h160
                obtain rfl := Eq.symm h134
                obtain rfl := Eq.symm h136
                obtain rfl := Eq.symm h138
                obtain rfl := Eq.symm h140
                obtain rfl := Eq.symm h142
                obtain rfl := Eq.symm h144
                obtain rfl := Eq.symm h146
                obtain rfl := Eq.symm h148
                obtain rfl := Eq.symm h150
                obtain rfl := Eq.symm h152
                obtain rfl := Eq.symm h154
                obtain rfl := Eq.symm h156
                obtain rfl := Eq.symm h158
                have g161 := (gd_some hd3).1; replace hd3 := (gd_some hd3).2
                refine wo_append (i := 3) (X := x57) (Y := ([(⟨(o72 / 4) % ((1 : Int) + (x.states % 6)), ((o72 / 4) / ((1 : Int) + (x.states % 6))) % ((1 : Int) + (x.outs % 3))⟩ : Edge)] : List Edge)) rfl Try.underlying41 zo40 rfl rfl rfl (h63.mono ((le74.trans le97).trans le132)) (sl_s (Sub.v (B := (tSl false kEdge)) (sub_sl Sub.refl (fun _ => rfl)) h160)) g161.1 g161.2 fun v162 f163 h164 => ?_
                refine wo_v rfl (val_assign (v := v162) rfl) ?_
                refine wo_nil ?_
                exact ⟨(fun _ => rfl), ((le74.trans le97).trans le132), (by repeat (first | exact off_self | refine off_upd rfl ?_ | refine off_setl rfl ?_ | refine off_mask_sub rfl ?_)), ((x57 ++ ([(⟨(o72 / 4) % ((1 : Int) + (x.states % 6)), ((o72 / 4) / ((1 : Int) + (x.states % 6))) % ((1 : Int) + (x.outs % 3))⟩ : Edge)] : List Edge)), v162, f163), ⟨rfl, trivial⟩, ⟨[], List.Perm.refl _⟩, (Option.some.inj hd3).symm, h164, trivial⟩
          ·
            rintro ⟨o66, v69, f70⟩ j165 D166 R67 hD167 le68 ⟨rfl, h71, _⟩
            obtain rfl := hD167 rfl
            refine wg_region ?_
            refine wo_v rfl (val_move (v := (.int .i64 x58)) rfl) ?_
            have g168 := (gd_some hd2).1; replace hd2 := (gd_some hd2).2
            refine wo_v rfl (val_add rfl rfl g168) ?_
            refine wo_v rfl (val_assign (v := (.int .i64 (x58 + 1))) rfl) ?_
            refine wo_nil ?_
            exact ⟨(fun _ => rfl), le68, (by repeat (first | exact off_self | refine off_upd rfl ?_ | refine off_setl rfl ?_ | refine off_mask_sub rfl ?_)), (F56, o66, x58 + 1, v69, f70), Nat.lt_succ_self _, ⟨rfl, rfl, trivial⟩, ⟨[], List.Perm.refl _⟩, hd2, h71, trivial⟩
        · replace hd2 := sel_f e65 hd2; clear e65
          refine wg_exit ?_
          exact ⟨(fun _ => rfl), le60, (by repeat (first | exact off_self | refine off_upd rfl ?_ | refine off_setl rfl ?_ | refine off_mask_sub rfl ?_)), (x57, v61, f62), ⟨rfl, trivial⟩, ⟨[], List.Perm.refl _⟩, (Option.some.inj hd2).symm, h63, trivial⟩
      ·
        rintro ⟨o48, v51, f52⟩ j172 D173 R49 hD174 le50 ⟨rfl, h53, _⟩
        obtain rfl := hD174 rfl
        refine wg_region ?_
        refine wo_v rfl (val_fieldB fd27_2 rfl) ?_
        refine wo_v rfl (val_loadB (i := 1) ag25 rfl rfl rfl) ?_
        refine wo_v rfl (val_move (v := v51) rfl) ?_
        refine wo_freeze (i := 3) rfl h53 fun R175 le176 h177 => ?_
        have h178 : VRep (tSl false kEdge) R175 v51 o48 := (sl_f h177)
        refine wo_lit (T := (tSl false kEdge)) (X := ([o48] : List (List Edge))) (ps := [(0, v51)]) (css := [[v51]]) rfl Try.underlying25 zo41 rfl (by simp only [List.map_cons, List.map_nil, sl_cells h178]; rfl) (lit_reps ⟨(rep_one rfl h178), trivial⟩) rfl rfl (by decide) fun v179 f180 cap181 h182 => ?_
        refine wo_freeze (i := 0) rfl h182 fun R184 le185 h186 => ?_
        have h187 : VRep (tSl true (tSl false kEdge)) R184 v179 ([o48] : List (List Edge)) := (sl_t h186 cap181)
        have g188 := (gd_some hd1).1; replace hd1 := (gd_some hd1).2
        refine wo_append (i := 2) (X := x40) (Y := ([o48] : List (List Edge))) rfl Try.underlying25 zo41 rfl rfl rfl (h45.mono ((le50.trans le176).trans le185)) (sl_s (Sub.v (B := (tSl false (tSl false kEdge))) (sub_sl Sub.refl (fun _ => rfl)) h187)) g188.1 g188.2 fun v189 f190 h191 => ?_
        refine wo_v rfl (val_fieldB fd27_2 rfl) ?_
        refine wo_store (i := 1) (vs := [v189]) sz25 rfl rfl (orep_cells h191) rfl rfl rfl (one_cons (orep_one h191) one_nil) ?_
        refine wo_nil ?_
        refine wg_region ?_
        refine wo_v rfl (val_move (v := (.int .i64 x39)) rfl) ?_
        have g192 := (gd_some hd1).1; replace hd1 := (gd_some hd1).2
        refine wo_v rfl (val_add rfl rfl g192) ?_
        refine wo_v rfl (val_assign (v := (.int .i64 (x39 + 1))) rfl) ?_
        refine wo_nil ?_
        exact ⟨(fun _ => rfl), ((le50.trans le176).trans le185), (by repeat (first | exact off_self | refine off_upd rfl ?_ | refine off_setl rfl ?_ | refine off_mask_sub rfl ?_)), (F38, x39 + 1, (x40 ++ ([o48] : List (List Edge))), v189, f190), Nat.lt_succ_self _, ⟨rfl, trivial⟩, ⟨[], List.Perm.refl _⟩, hd1, h191, trivial⟩
    · replace hd1 := sel_f e47 hd1; clear e47
      refine wg_exit ?_
      exact ⟨(fun _ => rfl), le42, (by repeat (first | exact off_self | refine off_upd rfl ?_ | refine off_setl rfl ?_ | refine off_mask_sub rfl ?_)), (x40, v43, f44), trivial, ⟨[], List.Perm.refl _⟩, (Option.some.inj hd1).symm, h45, trivial⟩
  ·
    rintro ⟨o30, v33, f34⟩ j196 D197 R31 hD198 le32 ⟨rfl, h35, _⟩
    obtain rfl := hD198 rfl
    refine wg_seq ?_
    refine wg_region ?_
    refine wo_v rfl (val_loadBA (i := 1) ag27 sz27 rfl rfl rfl rfl) ?_
    refine wo_store (i := 0) (vs := [(.int .i64 ((1 : Int) + (x.ins % 3))), (.int .i64 ((1 : Int) + (x.outs % 3))), v33]) sz27 rfl rfl rfl rfl rfl rfl (one_cons rfl (one_cons rfl (one_cons (orep_one h35) one_nil))) ?_
    refine wo_nil ?_
    refine wg_freeze (i := 2) rfl h35 fun R199 le200 h201 => ?_
    have h202 : VRep (tSl false (tSl false kEdge)) R199 v33 o30 := (sl_f h201)
    refine wg_ret ?_
    obtain rfl := Option.some.inj hd0
    refine body_end (D := []) (J := [box b5 [(.int .i64 ((1 : Int) + (x.ins % 3))), (.int .i64 ((1 : Int) + (x.outs % 3))), v33] 27, box b28 [(.int .i64 ((1 : Int) + (x.ins % 3))), (.int .i64 ((1 : Int) + (x.outs % 3))), v33] 27]) (rs := [.cell 2 27]) (vs := [(.agg #[(.int .i64 ((1 : Int) + (x.ins % 3))), (.int .i64 ((1 : Int) + (x.outs % 3))), v33])]) ((le4.trans le32).trans le200) rfl rfl ⟨⟨_, rfl, fun w hh => run_cellA (i := 0) hh rfl rfl ag27 sz27 rfl rfl⟩, trivial⟩ ?_
    exact ⟨rfl, (⟨_, ⟨_, _, rfl, rfl, ⟨_, _, rfl, rfl, (rep_one rfl h202)⟩⟩, rfl⟩ : VRep (kMach false false) _ _ (⟨(1 : Int) + (x.ins % 3), (1 : Int) + (x.outs % 3), o30⟩ : Mach))⟩
theorem en10 : Enters Try.prog 10 := enters_of Try.func10 rfl (by kernel_rfl)
theorem ty27 {b0 b1 : Bool} : TyOk Try.prog 27 (kMach b0 b1) := by
  obtain ⟨i, hi, hs⟩ : ∃ i, Try.prog.info? 27 = some i ∧ i.size = 3 := info_size (by kernel_rfl)
  exact tyOk_of Try.underlying27 hi rfl hs
theorem ty3 : TyOk Try.prog 3 (tInt .i64) := by
  obtain ⟨i, hi, hs⟩ : ∃ i, Try.prog.info? 3 = some i ∧ i.size = 1 := info_size (by kernel_rfl)
  exact tyOk_of Try.underlying3 hi rfl hs
theorem ty25 {b0 b1 : Bool} : TyOk Try.prog 25 (tSl b0 (tSl b1 kEdge)) := by
  obtain ⟨i, hi, hs⟩ : ∃ i, Try.prog.info? 25 = some i ∧ i.size = 1 := info_size (by kernel_rfl)
  exact tyOk_of Try.underlying25 hi rfl hs
theorem ty41 {b0 : Bool} : TyOk Try.prog 41 (tSl b0 kEdge) := by
  obtain ⟨i, hi, hs⟩ : ∃ i, Try.prog.info? 41 = some i ∧ i.size = 1 := info_size (by kernel_rfl)
  exact tyOk_of Try.underlying41 hi rfl hs
theorem sl25 {b0 : Bool} : SlOk Try.prog 25 41 (tSl b0 kEdge) := ⟨Try.underlying25, ty41⟩
theorem ty40 : TyOk Try.prog 40 kEdge := by
  obtain ⟨i, hi, hs⟩ : ∃ i, Try.prog.info? 40 = some i ∧ i.size = 2 := info_size (by kernel_rfl)
  exact tyOk_of Try.underlying40 hi rfl hs
theorem sl41 : SlOk Try.prog 41 40 kEdge := ⟨Try.underlying41, ty40⟩
theorem c_slices_IndexFunc_api_Edge {N : Nat} {R : RH} {s : (List Edge)} {v_s : Value} (h_s : VRep (tSl false kEdge) R v_s s) {f : Edge → Option Bool} {v_f : Value} (h_f : FOk1 Try.prog R v_f kEdge tBool f) {r : Int} (hd0 : slices_IndexFunc_api_Edge N s f = some r) : CallP Try.prog 60 #[v_s, v_f] R (fun v R' => v = (.int .i64 r)) := by
  refine callP_of_wg (args := [v_s, v_f]) Try.func60 rfl rfl fun A => ?_
  rw [slices_IndexFunc_api_Edge] at hd0
  refine wg_seq ?_
  refine wg_region ?_
  refine wo_v rfl (val_assign (v := (.int .i64 0)) rfl) ?_
  refine wo_nil ?_
  replace hd0 := bd_some hd0; obtain ⟨q2, hd1, hd0⟩ := hd0
  refine wg_meet (γ := Unit) true [6, 7, 8, 9, 10, 5, 11, 12, 13, 14, 15, 16, 17, 4, 18] (fun g => []) (fun g => [] ++ A) (fun g R => q2 = Ex.go g ∧ True) ?_ ?_
  ·
    refine wg_seq ?_
    refine wg_region ?_
    refine wo_v rfl (val_move (v := v_s) rfl) ?_
    refine wo_v rfl (val_lenR rfl Try.underlying41 rfl (sl_s h_s)) ?_
    refine wo_v rfl (val_move (v := (.int .i64 0)) rfl) ?_
    refine wo_nil ?_
    refine wg_block ?_
    refine wg_loopS (γ := Nat × Int) true [9, 10, 5, 11, 12, 13, 14, 15, 16, 17, 4, 18, 8] (fun g => [(8, (.int .i64 g.2))]) (fun g => [] ++ A) (fun g R => slices_IndexFunc_api_Edge_L1 N s f g.1 g.2 = some q2 ∧ True) (fun g => g.1) (N, 0) ⟨rfl, trivial⟩ ⟨[], List.Perm.refl _⟩ ⟨hd1, trivial⟩ (fun _ => rfl) ?_
    clear hd1
    rintro ⟨F5, x6⟩ j23 D24 R7 hD25 le8 ⟨hd1, _⟩
    obtain rfl := hD25 rfl
    rcases F5 with _ | F5
    · exact none_elim hd1
    replace hd1 : slices_IndexFunc_api_Edge_L1 N s f (F5 + 1) x6 = some q2 := hd1; rw [slices_IndexFunc_api_Edge_L1] at hd1
    refine wg_seq ?_
    refine wg_region ?_
    refine wo_v rfl (val_lss rfl rfl) ?_
    refine wo_nil ?_
    refine wg_seq ?_
    refine wg_cond rfl (fun e9 => ?_) (fun e9 => ?_)
    · replace hd1 := sel_t e9 hd1; clear e9
      refine wg_skip ?_
      refine wg_seq ?_
      refine wg_block ?_
      refine wg_seq ?_
      refine wg_region ?_
      refine wo_v rfl (val_move (v := (.int .i64 x6)) rfl) ?_
      refine wo_v rfl (val_assign (v := (.int .i64 x6)) rfl) ?_
      refine wo_nil ?_
      refine wg_seq ?_
      refine wg_region ?_
      refine wo_v rfl (val_move (v := v_f) rfl) ?_
      refine wo_v rfl (val_move (v := v_s) rfl) ?_
      refine wo_v rfl (val_move (v := (.int .i64 x6)) rfl) ?_
      have g10 := (gd_some hd1).1; replace hd1 := (gd_some hd1).2
      refine wo_indexR (i := x6.toNat) rfl sl41 rfl (sl_s (h_s.mono le8)) (idx_nonneg rfl g10.1) (okI_lt g10) fun v11 h12 => ?_
      refine wo_loadR rfl ty40 rfl h12 fun v13 h14 => ?_
      obtain rfl := vrep_Edge.1 h14
      replace hd1 := bd_some hd1; obtain ⟨y15, c16, hd1⟩ := hd1
      refine wo_callF rfl rfl rfl ((h_f.mono le8) _ (RH.le.refl _) (ix s x6) _ _ (vrep_Edge.2 rfl) c16) fun v19 R17 le18 h20 => ?_
      obtain rfl := vrep_bool.1 h20
      refine wo_nil ?_
      refine wg_cond rfl (fun e21 => ?_) (fun e21 => ?_)
      · replace hd1 := sel_t e21 hd1; clear e21
        refine wg_seq ?_
        refine wg_region ?_
        refine wo_v rfl (val_move (v := (.int .i64 x6)) rfl) ?_
        refine wo_v rfl (val_assign (v := (.int .i64 x6)) rfl) ?_
        refine wo_nil ?_
        refine wg_ret ?_
        replace hd0 := on_rt hd1 hd0
        obtain rfl := Option.some.inj hd0
        refine body_end (D := []) (J := []) (rs := [.tmp 4]) (vs := [(.int .i64 x6)]) (le8.trans le18) rfl rfl ⟨rfl, trivial⟩ ?_
        exact ⟨rfl, rfl⟩
      · replace hd1 := sel_f e21 hd1; clear e21
        refine wg_skip ?_
        refine wg_region ?_
        have g22 := (gd_some hd1).1; replace hd1 := (gd_some hd1).2
        refine wo_v rfl (val_add rfl rfl g22) ?_
        refine wo_v rfl (val_move (v := (.int .i64 (x6 + 1))) rfl) ?_
        refine wo_nil ?_
        exact ⟨(fun _ => rfl), le18, (by repeat (first | exact off_self | refine off_upd rfl ?_ | refine off_setl rfl ?_ | refine off_mask_sub rfl ?_)), (F5, x6 + 1), Nat.lt_succ_self _, ⟨rfl, trivial⟩, ⟨[], List.Perm.refl _⟩, hd1, trivial⟩
    · replace hd1 := sel_f e9 hd1; clear e9
      refine wg_exit ?_
      exact ⟨(fun _ => rfl), le8, (by repeat (first | exact off_self | refine off_upd rfl ?_ | refine off_setl rfl ?_ | refine off_mask_sub rfl ?_)), (), trivial, ⟨[], List.Perm.refl _⟩, (Option.some.inj hd1).symm, trivial⟩
  ·
    rintro o1 j26 D27 R3 hD28 le4 ⟨rfl, _⟩
    obtain rfl := hD28 rfl
    replace hd0 := on_go hd0
    refine wg_seq ?_
    refine wg_region ?_
    refine wo_v rfl (val_assign (v := (.int .i64 (-1))) rfl) ?_
    refine wo_nil ?_
    refine wg_ret ?_
    obtain rfl := Option.some.inj hd0
    refine body_end (D := []) (J := []) (rs := [.tmp 4]) (vs := [(.int .i64 (-1))]) le4 rfl rfl ⟨rfl, trivial⟩ ?_
    exact ⟨rfl, rfl⟩
theorem en60 : Enters Try.prog 60 := enters_of Try.func60 rfl (by kernel_rfl)
theorem c_slices_ContainsFunc_api_Edge {N : Nat} {R : RH} {s : (List Edge)} {v_s : Value} (h_s : VRep (tSl false kEdge) R v_s s) {f : Edge → Option Bool} {v_f : Value} (h_f : FOk1 Try.prog R v_f kEdge tBool f) {r : Bool} (hd0 : slices_ContainsFunc_api_Edge N s f = some r) : CallP Try.prog 47 #[v_s, v_f] R (fun v R' => v = (.bool r)) := by
  refine callP_of_wg (args := [v_s, v_f]) Try.func47 rfl rfl fun A => ?_
  rw [slices_ContainsFunc_api_Edge] at hd0
  refine wg_seq ?_
  refine wg_region ?_
  refine wo_v rfl (val_assign (v := (.bool false)) rfl) ?_
  refine wo_nil ?_
  refine wg_seq ?_
  refine wg_region ?_
  refine wo_v rfl (val_move (v := v_s) rfl) ?_
  refine wo_v rfl (val_move (v := v_f) rfl) ?_
  replace hd0 := bd_some hd0; obtain ⟨y1, c2, hd0⟩ := hd0
  refine wo_callP rfl en60 rfl (c_slices_IndexFunc_api_Edge h_s h_f c2) fun v3 R5 le6 h4 => ?_
  obtain rfl := h4
  refine wo_v rfl (val_geq rfl rfl) ?_
  refine wo_v rfl (val_assign (v := (.bool (decide (0 ≤ y1)))) rfl) ?_
  refine wo_nil ?_
  refine wg_ret ?_
  obtain rfl := Option.some.inj hd0
  refine body_end (D := []) (J := []) (rs := [.tmp 4]) (vs := [(.bool (decide (0 ≤ y1)))]) le6 rfl rfl ⟨rfl, trivial⟩ ?_
  exact ⟨rfl, rfl⟩
theorem en47 : Enters Try.prog 47 := enters_of Try.func47 rfl (by kernel_rfl)
theorem za40 : ∀ w, ∃ z, (zeroValue 40).run Try.prog w = .ok z w ∧ z.cells = ([.int .i64 0, .int .i64 0] : List Value).toArray := fun w => ⟨(.agg #[(.int .i64 0), (.int .i64 0)]), by kernel_rfl, rfl⟩
theorem sz40 : ∀ w, (sizeOf 40).run Try.prog w = .ok 2 w := fun w => by kernel_rfl
theorem ag40 : ∀ w, (isAgg 40).run Try.prog w = .ok true w := fun w => by kernel_rfl
theorem c_machines_none {N : Nat} {R : RH}  {r : Edge} (hd0 : machines_none N  = some r) : CallP Try.prog 55 #[] R (fun v R' => v = (enc_Edge r)) := by
  refine callP_of_wg (args := []) Try.func55 rfl rfl fun A => ?_
  rw [machines_none] at hd0
  refine wg_seq ?_
  refine wg_region ?_
  refine wo_alloc rfl za40 fun b1 => ?_
  refine wo_nil ?_
  refine wg_seq ?_
  refine wg_region ?_
  refine wo_v rfl (val_buildL (ps := [(0, (.int .i64 (-1))), (1, (.int .i64 (-1)))]) (v := (.agg #[(.int .i64 (-1)), (.int .i64 (-1))])) rfl (fun w => by kernel_rfl)) ?_
  refine wo_store (i := 0) (vs := [(.int .i64 (-1)), (.int .i64 (-1))]) sz40 rfl rfl rfl rfl rfl rfl (one_cons rfl (one_cons rfl one_nil)) ?_
  refine wo_nil ?_
  refine wg_ret ?_
  obtain rfl := Option.some.inj hd0
  refine body_end (D := []) (J := [box b1 [(.int .i64 (-1)), (.int .i64 (-1))] 40]) (rs := [.cell 0 40]) (vs := [(.agg #[(.int .i64 (-1)), (.int .i64 (-1))])]) (RH.le.refl _) rfl rfl ⟨⟨_, rfl, fun w hh => run_cellA (i := 0) hh rfl rfl ag40 sz40 rfl rfl⟩, trivial⟩ ?_
  exact ⟨rfl, rfl⟩
theorem en55 : Enters Try.prog 55 := enters_of Try.func55 rfl (by kernel_rfl)
theorem eq40 : EqOk2 Try.prog 40 := eqOk2_struct (f0 := ((Try.prog.fieldsOf 40).toList.getD 0 default)) (f1 := ((Try.prog.fieldsOf 40).toList.getD 1 default)) (by kernel_rfl) (by kernel_rfl) (by kernel_rfl) (by kernel_rfl) (by kernel_rfl) (by kernel_rfl) (by kernel_rfl) (by kernel_rfl) (by kernel_rfl) (by kernel_rfl)
theorem fd40_0 : FieldOk Try.prog 40 0 0 := by
  obtain ⟨i, hi, hs⟩ : ∃ i, Try.prog.info? 3 = some i ∧ i.size = 1 := info_size (by kernel_rfl)
  exact fieldOk_of Try.underlying40 rfl rfl hi (by rw [hs]; rfl)
theorem fd40_1 : FieldOk Try.prog 40 1 1 := by
  obtain ⟨i, hi, hs⟩ : ∃ i, Try.prog.info? 3 = some i ∧ i.size = 1 := info_size (by kernel_rfl)
  exact fieldOk_of Try.underlying40 rfl rfl hi (by rw [hs]; rfl)
theorem c_machines_fits {N : Nat} {R : RH} {m : Mach} {v_m : Value} (h_m : VRep (kMach false false) R v_m m) {x : Edge} {r : Bool} (hd0 : machines_fits N m x = some r) : CallP Try.prog 49 #[v_m, (enc_Edge x)] R (fun v R' => v = (.bool r)) := by
  refine callP_of_wg (args := [v_m, (enc_Edge x)]) Try.func49 rfl rfl fun A => ?_
  rw [machines_fits] at hd0
  refine wg_seq ?_
  refine wg_region ?_
  refine wo_boxR (T := (kMach false false)) rfl rfl h_m fun v1 R3 le4 h2 => ?_
  refine wo_boxR (T := kEdge) rfl rfl (vrep_Edge.2 rfl) fun v5 R7 le8 h6 => ?_
  refine wo_v rfl (val_assign (v := (.bool false)) rfl) ?_
  refine wo_nil ?_
  refine wg_seq ?_
  replace hd0 := bd_some hd0; obtain ⟨y9, c10, hd0⟩ := hd0
  refine wg_drawn 29 [] [phX (enc_Edge x), phX (enc_Edge y9), phX (.bool (decide (x.to = y9.to ∧ x.out = y9.out))), phX (.bool (decide (x.to = y9.to ∧ x.out = y9.out))), phG (true && ((decide (x.to = y9.to ∧ x.out = y9.out)) == false)) (phP (tInt .i64) x.to), phG (true && ((decide (x.to = y9.to ∧ x.out = y9.out)) == false)) (phX (.int .i64 x.to)), phG (true && ((decide (x.to = y9.to ∧ x.out = y9.out)) == false)) (phX (.bool (decide (0 ≤ x.to)))), phG (true && ((decide (x.to = y9.to ∧ x.out = y9.out)) == false)) (phX (.bool (decide (0 ≤ x.to)))), phG ((true && ((decide (x.to = y9.to ∧ x.out = y9.out)) == false)) && ((decide (0 ≤ x.to)) == true)) (phP (tInt .i64) x.to), phG ((true && ((decide (x.to = y9.to ∧ x.out = y9.out)) == false)) && ((decide (0 ≤ x.to)) == true)) (phX (.int .i64 x.to)), phG ((true && ((decide (x.to = y9.to ∧ x.out = y9.out)) == false)) && ((decide (0 ≤ x.to)) == true)) (phP (tSl false (tSl false kEdge)) m.rows), phG ((true && ((decide (x.to = y9.to ∧ x.out = y9.out)) == false)) && ((decide (0 ≤ x.to)) == true)) (phR (tSl false (tSl false kEdge)) m.rows), phG ((true && ((decide (x.to = y9.to ∧ x.out = y9.out)) == false)) && ((decide (0 ≤ x.to)) == true)) (phX (.int .i64 (↑m.rows.length : Int))), phG ((true && ((decide (x.to = y9.to ∧ x.out = y9.out)) == false)) && ((decide (0 ≤ x.to)) == true)) (phX (.bool (decide (x.to < (↑m.rows.length : Int))))), phG (true && ((decide (x.to = y9.to ∧ x.out = y9.out)) == false)) (phX (.bool ((decide (0 ≤ x.to)) && (decide (x.to < (↑m.rows.length : Int)))))), phG (true && ((decide (x.to = y9.to ∧ x.out = y9.out)) == false)) (phX (.bool ((decide (0 ≤ x.to)) && (decide (x.to < (↑m.rows.length : Int)))))), phG ((true && ((decide (x.to = y9.to ∧ x.out = y9.out)) == false)) && (((decide (0 ≤ x.to)) && (decide (x.to < (↑m.rows.length : Int)))) == true)) (phP (tInt .i64) x.out), phG ((true && ((decide (x.to = y9.to ∧ x.out = y9.out)) == false)) && (((decide (0 ≤ x.to)) && (decide (x.to < (↑m.rows.length : Int)))) == true)) (phX (.int .i64 x.out)), phG ((true && ((decide (x.to = y9.to ∧ x.out = y9.out)) == false)) && (((decide (0 ≤ x.to)) && (decide (x.to < (↑m.rows.length : Int)))) == true)) (phX (.bool (decide (0 ≤ x.out)))), phG (true && ((decide (x.to = y9.to ∧ x.out = y9.out)) == false)) (phX (.bool (((decide (0 ≤ x.to)) && (decide (x.to < (↑m.rows.length : Int)))) && (decide (0 ≤ x.out))))), phG (true && ((decide (x.to = y9.to ∧ x.out = y9.out)) == false)) (phX (.bool (((decide (0 ≤ x.to)) && (decide (x.to < (↑m.rows.length : Int)))) && (decide (0 ≤ x.out))))), phG ((true && ((decide (x.to = y9.to ∧ x.out = y9.out)) == false)) && ((((decide (0 ≤ x.to)) && (decide (x.to < (↑m.rows.length : Int)))) && (decide (0 ≤ x.out))) == true)) (phP (tInt .i64) x.out), phG ((true && ((decide (x.to = y9.to ∧ x.out = y9.out)) == false)) && ((((decide (0 ≤ x.to)) && (decide (x.to < (↑m.rows.length : Int)))) && (decide (0 ≤ x.out))) == true)) (phX (.int .i64 x.out)), phG ((true && ((decide (x.to = y9.to ∧ x.out = y9.out)) == false)) && ((((decide (0 ≤ x.to)) && (decide (x.to < (↑m.rows.length : Int)))) && (decide (0 ≤ x.out))) == true)) (phP (tInt .i64) m.outputs), phG ((true && ((decide (x.to = y9.to ∧ x.out = y9.out)) == false)) && ((((decide (0 ≤ x.to)) && (decide (x.to < (↑m.rows.length : Int)))) && (decide (0 ≤ x.out))) == true)) (phX (.int .i64 m.outputs)), phG ((true && ((decide (x.to = y9.to ∧ x.out = y9.out)) == false)) && ((((decide (0 ≤ x.to)) && (decide (x.to < (↑m.rows.length : Int)))) && (decide (0 ≤ x.out))) == true)) (phX (.bool (decide (x.out < m.outputs)))), phG (true && ((decide (x.to = y9.to ∧ x.out = y9.out)) == false)) (phX (.bool ((((decide (0 ≤ x.to)) && (decide (x.to < (↑m.rows.length : Int)))) && (decide (0 ≤ x.out))) && (decide (x.out < m.outputs))))), phX (.bool ((decide (x.to = y9.to ∧ x.out = y9.out)) || ((((decide (0 ≤ x.to)) && (decide (x.to < (↑m.rows.length : Int)))) && (decide (0 ≤ x.out))) && (decide (x.out < m.outputs))))), phX (.bool ((decide (x.to = y9.to ∧ x.out = y9.out)) || ((((decide (0 ≤ x.to)) && (decide (x.to < (↑m.rows.length : Int)))) && (decide (0 ≤ x.out))) && (decide (x.out < m.outputs)))))] mixed (by kernel_rfl) (monoOk_of ⟨mono_x, mono_x, mono_x, mono_x, (mono_g mono_p), (mono_g mono_x), (mono_g mono_x), (mono_g mono_x), (mono_g mono_p), (mono_g mono_x), (mono_g mono_p), (mono_g mono_r), (mono_g mono_x), (mono_g mono_x), (mono_g mono_x), (mono_g mono_x), (mono_g mono_p), (mono_g mono_x), (mono_g mono_x), (mono_g mono_x), (mono_g mono_x), (mono_g mono_p), (mono_g mono_x), (mono_g mono_p), (mono_g mono_x), (mono_g mono_x), (mono_g mono_x), mono_x, mono_x, trivial⟩) ⟨?_, ?_, ?_, ?_, ?_, ?_, ?_, ?_, ?_, ?_, ?_, ?_, ?_, ?_, ?_, ?_, ?_, ?_, ?_, ?_, ?_, ?_, ?_, ?_, ?_, ?_, ?_, ?_, ?_, trivial⟩ fun R11 le12 => ?_
  · intro l R0q hle ha hd
    have a3 : l 3 = v5 := ha 3 rfl
    exact gstep_plain rfl rfl rfl (ph_exact (ph_loadR ty40 a3 (h6.mono hle)) (fun _ _ h => vrep_Edge.1 h))
  · intro l R1q hle ha hd
    exact gstep_plain rfl rfl rfl (ph_callP en55 rfl (c_machines_none  c10) (fun _ _ h => h))
  · intro l R2q hle ha hd
    obtain ⟨d0, d1, _⟩ := hd
    have f5 : l 5 = (enc_Edge x) := d0 rfl
    have f6 : l 6 = (enc_Edge y9) := d1 rfl
    exact gstep_plain rfl rfl rfl (ph_val (val_eql2 eq40 f5 f6))
  · intro l R3q hle ha hd
    obtain ⟨d0, d1, _⟩ := hd
    have f7 : l 7 = (.bool (decide (x.to = y9.to ∧ x.out = y9.out))) := d0 rfl
    exact gstep_plain rfl rfl rfl (ph_val (val_move f7))
  · intro l R4q hle ha hd
    obtain ⟨d0, _⟩ := hd
    have a3 : l 3 = v5 := ha 3 rfl
    exact gstep_guard (Gj := true) (Bj := decide (x.to = y9.to ∧ x.out = y9.out)) rfl rfl rfl (gtrue (d0 rfl)) rfl (fun hG hB => ph_fieldR fd40_0 pt_Edge0 a3 (h6.mono hle))
  · intro l R5q hle ha hd
    obtain ⟨d0, d1, _⟩ := hd
    have f9g : phG (true && ((decide (x.to = y9.to ∧ x.out = y9.out)) == false)) (phP (tInt .i64) x.to) (l 9) R5q := d0 rfl
    exact gstep_guard (Gj := true) (Bj := decide (x.to = y9.to ∧ x.out = y9.out)) rfl rfl rfl (gtrue (d1 rfl)) rfl (fun hG hB => ph_exact (ph_loadR ty3 rfl (f9g.1 (gandT rfl hB))) (fun _ _ h => vrep_int.1 h))
  · intro l R6q hle ha hd
    obtain ⟨d0, d1, _⟩ := hd
    have f10g : phG (true && ((decide (x.to = y9.to ∧ x.out = y9.out)) == false)) (phX (.int .i64 x.to)) (l 10) R6q := d0 rfl
    exact gstep_guard (Gj := true) (Bj := decide (x.to = y9.to ∧ x.out = y9.out)) rfl rfl rfl (gtrue (d1 rfl)) rfl (fun hG hB => ph_val (val_geq (show l 10 = (.int .i64 x.to) from f10g.1 (gandT rfl hB)) rfl))
  · intro l R7q hle ha hd
    obtain ⟨d0, d1, d2, _⟩ := hd
    have f11g : phG (true && ((decide (x.to = y9.to ∧ x.out = y9.out)) == false)) (phX (.bool (decide (0 ≤ x.to)))) (l 11) R7q := d0 rfl
    exact gstep_guard (Gj := true) (Bj := decide (x.to = y9.to ∧ x.out = y9.out)) rfl rfl rfl (gtrue (d1 rfl)) rfl (fun hG hB => ph_val (val_move (show l 11 = (.bool (decide (0 ≤ x.to))) from f11g.1 (gandT rfl hB))))
  · intro l R8q hle ha hd
    obtain ⟨d0, _⟩ := hd
    have a3 : l 3 = v5 := ha 3 rfl
    exact gstep_guard (Gj := (true && ((decide (x.to = y9.to ∧ x.out = y9.out)) == false))) (Bj := decide (0 ≤ x.to)) rfl rfl rfl (d0 rfl) rfl (fun hG hB => ph_fieldR fd40_0 pt_Edge0 a3 (h6.mono hle))
  · intro l R9q hle ha hd
    obtain ⟨d0, d1, _⟩ := hd
    have f13g : phG ((true && ((decide (x.to = y9.to ∧ x.out = y9.out)) == false)) && ((decide (0 ≤ x.to)) == true)) (phP (tInt .i64) x.to) (l 13) R9q := d0 rfl
    exact gstep_guard (Gj := (true && ((decide (x.to = y9.to ∧ x.out = y9.out)) == false))) (Bj := decide (0 ≤ x.to)) rfl rfl rfl (d1 rfl) rfl (fun hG hB => ph_exact (ph_loadR ty3 rfl (f13g.1 (gandT hG hB))) (fun _ _ h => vrep_int.1 h))
  · intro l R10q hle ha hd
    obtain ⟨d0, _⟩ := hd
    have a2 : l 2 = v1 := ha 2 rfl
    exact gstep_guard (Gj := (true && ((decide (x.to = y9.to ∧ x.out = y9.out)) == false))) (Bj := decide (0 ≤ x.to)) rfl rfl rfl (d0 rfl) rfl (fun hG hB => ph_fieldR fd27_2 pt_Mach2 a2 ((h2.mono le8).mono hle))
  · intro l R11q hle ha hd
    obtain ⟨d0, d1, _⟩ := hd
    have f15g : phG ((true && ((decide (x.to = y9.to ∧ x.out = y9.out)) == false)) && ((decide (0 ≤ x.to)) == true)) (phP (tSl false (tSl false kEdge)) m.rows) (l 15) R11q := d0 rfl
    exact gstep_guard (Gj := (true && ((decide (x.to = y9.to ∧ x.out = y9.out)) == false))) (Bj := decide (0 ≤ x.to)) rfl rfl rfl (d1 rfl) rfl (fun hG hB => ph_loadR ty25 rfl (f15g.1 (gandT hG hB)))
  · intro l R12q hle ha hd
    obtain ⟨d0, d1, _⟩ := hd
    have f16g : phG ((true && ((decide (x.to = y9.to ∧ x.out = y9.out)) == false)) && ((decide (0 ≤ x.to)) == true)) (phR (tSl false (tSl false kEdge)) m.rows) (l 16) R12q := d0 rfl
    exact gstep_guard (Gj := (true && ((decide (x.to = y9.to ∧ x.out = y9.out)) == false))) (Bj := decide (0 ≤ x.to)) rfl rfl rfl (d1 rfl) rfl (fun hG hB => ph_val (val_lenR rfl Try.underlying25 rfl (sl_s (f16g.1 (gandT hG hB)))))
  · intro l R13q hle ha hd
    obtain ⟨d0, d1, d2, _⟩ := hd
    have f14g : phG ((true && ((decide (x.to = y9.to ∧ x.out = y9.out)) == false)) && ((decide (0 ≤ x.to)) == true)) (phX (.int .i64 x.to)) (l 14) R13q := d0 rfl
    have f17g : phG ((true && ((decide (x.to = y9.to ∧ x.out = y9.out)) == false)) && ((decide (0 ≤ x.to)) == true)) (phX (.int .i64 (↑m.rows.length : Int))) (l 17) R13q := d1 rfl
    exact gstep_guard (Gj := (true && ((decide (x.to = y9.to ∧ x.out = y9.out)) == false))) (Bj := decide (0 ≤ x.to)) rfl rfl rfl (d2 rfl) rfl (fun hG hB => ph_val (val_lss (show l 14 = (.int .i64 x.to) from f14g.1 (gandT hG hB)) (show l 17 = (.int .i64 (↑m.rows.length : Int)) from f17g.1 (gandT hG hB))))
  · intro l R14q hle ha hd
    obtain ⟨d0, d1, d2, _⟩ := hd
    have f12g : phG (true && ((decide (x.to = y9.to ∧ x.out = y9.out)) == false)) (phX (.bool (decide (0 ≤ x.to)))) (l 12) R14q := d0 rfl
    have f18g : phG ((true && ((decide (x.to = y9.to ∧ x.out = y9.out)) == false)) && ((decide (0 ≤ x.to)) == true)) (phX (.bool (decide (x.to < (↑m.rows.length : Int))))) (l 18) R14q := d1 rfl
    exact gstep_guard (Gj := true) (Bj := decide (x.to = y9.to ∧ x.out = y9.out)) rfl rfl rfl (gtrue (d2 rfl)) rfl (fun hG hB => ph_val (val_and (show l 12 = (.bool (decide (0 ≤ x.to))) from f12g.1 (gandT rfl hB)) (fun hb => (show l 18 = (.bool (decide (x.to < (↑m.rows.length : Int)))) from f18g.1 (gandT (gandT rfl hB) hb))) rfl))
  · intro l R15q hle ha hd
    obtain ⟨d0, d1, d2, _⟩ := hd
    have f19g : phG (true && ((decide (x.to = y9.to ∧ x.out = y9.out)) == false)) (phX (.bool ((decide (0 ≤ x.to)) && (decide (x.to < (↑m.rows.length : Int)))))) (l 19) R15q := d0 rfl
    exact gstep_guard (Gj := true) (Bj := decide (x.to = y9.to ∧ x.out = y9.out)) rfl rfl rfl (gtrue (d2 rfl)) rfl (fun hG hB => ph_val (val_move (show l 19 = (.bool ((decide (0 ≤ x.to)) && (decide (x.to < (↑m.rows.length : Int))))) from f19g.1 (gandT rfl hB))))
  · intro l R16q hle ha hd
    obtain ⟨d0, _⟩ := hd
    have a3 : l 3 = v5 := ha 3 rfl
    exact gstep_guard (Gj := (true && ((decide (x.to = y9.to ∧ x.out = y9.out)) == false))) (Bj := (decide (0 ≤ x.to)) && (decide (x.to < (↑m.rows.length : Int)))) rfl rfl rfl (d0 rfl) rfl (fun hG hB => ph_fieldR fd40_1 pt_Edge1 a3 (h6.mono hle))
  · intro l R17q hle ha hd
    obtain ⟨d0, d1, _⟩ := hd
    have f21g : phG ((true && ((decide (x.to = y9.to ∧ x.out = y9.out)) == false)) && (((decide (0 ≤ x.to)) && (decide (x.to < (↑m.rows.length : Int)))) == true)) (phP (tInt .i64) x.out) (l 21) R17q := d0 rfl
    exact gstep_guard (Gj := (true && ((decide (x.to = y9.to ∧ x.out = y9.out)) == false))) (Bj := (decide (0 ≤ x.to)) && (decide (x.to < (↑m.rows.length : Int)))) rfl rfl rfl (d1 rfl) rfl (fun hG hB => ph_exact (ph_loadR ty3 rfl (f21g.1 (gandT hG hB))) (fun _ _ h => vrep_int.1 h))
  · intro l R18q hle ha hd
    obtain ⟨d0, d1, _⟩ := hd
    have f22g : phG ((true && ((decide (x.to = y9.to ∧ x.out = y9.out)) == false)) && (((decide (0 ≤ x.to)) && (decide (x.to < (↑m.rows.length : Int)))) == true)) (phX (.int .i64 x.out)) (l 22) R18q := d0 rfl
    exact gstep_guard (Gj := (true && ((decide (x.to = y9.to ∧ x.out = y9.out)) == false))) (Bj := (decide (0 ≤ x.to)) && (decide (x.to < (↑m.rows.length : Int)))) rfl rfl rfl (d1 rfl) rfl (fun hG hB => ph_val (val_geq (show l 22 = (.int .i64 x.out) from f22g.1 (gandT hG hB)) rfl))
  · intro l R19q hle ha hd
    obtain ⟨d0, d1, d2, _⟩ := hd
    have f20g : phG (true && ((decide (x.to = y9.to ∧ x.out = y9.out)) == false)) (phX (.bool ((decide (0 ≤ x.to)) && (decide (x.to < (↑m.rows.length : Int)))))) (l 20) R19q := d0 rfl
    have f23g : phG ((true && ((decide (x.to = y9.to ∧ x.out = y9.out)) == false)) && (((decide (0 ≤ x.to)) && (decide (x.to < (↑m.rows.length : Int)))) == true)) (phX (.bool (decide (0 ≤ x.out)))) (l 23) R19q := d1 rfl
    exact gstep_guard (Gj := true) (Bj := decide (x.to = y9.to ∧ x.out = y9.out)) rfl rfl rfl (gtrue (d2 rfl)) rfl (fun hG hB => ph_val (val_and (show l 20 = (.bool ((decide (0 ≤ x.to)) && (decide (x.to < (↑m.rows.length : Int))))) from f20g.1 (gandT rfl hB)) (fun hb => (show l 23 = (.bool (decide (0 ≤ x.out))) from f23g.1 (gandT (gandT rfl hB) hb))) rfl))
  · intro l R20q hle ha hd
    obtain ⟨d0, d1, d2, _⟩ := hd
    have f24g : phG (true && ((decide (x.to = y9.to ∧ x.out = y9.out)) == false)) (phX (.bool (((decide (0 ≤ x.to)) && (decide (x.to < (↑m.rows.length : Int)))) && (decide (0 ≤ x.out))))) (l 24) R20q := d0 rfl
    exact gstep_guard (Gj := true) (Bj := decide (x.to = y9.to ∧ x.out = y9.out)) rfl rfl rfl (gtrue (d2 rfl)) rfl (fun hG hB => ph_val (val_move (show l 24 = (.bool (((decide (0 ≤ x.to)) && (decide (x.to < (↑m.rows.length : Int)))) && (decide (0 ≤ x.out)))) from f24g.1 (gandT rfl hB))))
  · intro l R21q hle ha hd
    obtain ⟨d0, _⟩ := hd
    have a3 : l 3 = v5 := ha 3 rfl
    exact gstep_guard (Gj := (true && ((decide (x.to = y9.to ∧ x.out = y9.out)) == false))) (Bj := ((decide (0 ≤ x.to)) && (decide (x.to < (↑m.rows.length : Int)))) && (decide (0 ≤ x.out))) rfl rfl rfl (d0 rfl) rfl (fun hG hB => ph_fieldR fd40_1 pt_Edge1 a3 (h6.mono hle))
  · intro l R22q hle ha hd
    obtain ⟨d0, d1, _⟩ := hd
    have f26g : phG ((true && ((decide (x.to = y9.to ∧ x.out = y9.out)) == false)) && ((((decide (0 ≤ x.to)) && (decide (x.to < (↑m.rows.length : Int)))) && (decide (0 ≤ x.out))) == true)) (phP (tInt .i64) x.out) (l 26) R22q := d0 rfl
    exact gstep_guard (Gj := (true && ((decide (x.to = y9.to ∧ x.out = y9.out)) == false))) (Bj := ((decide (0 ≤ x.to)) && (decide (x.to < (↑m.rows.length : Int)))) && (decide (0 ≤ x.out))) rfl rfl rfl (d1 rfl) rfl (fun hG hB => ph_exact (ph_loadR ty3 rfl (f26g.1 (gandT hG hB))) (fun _ _ h => vrep_int.1 h))
  · intro l R23q hle ha hd
    obtain ⟨d0, _⟩ := hd
    have a2 : l 2 = v1 := ha 2 rfl
    exact gstep_guard (Gj := (true && ((decide (x.to = y9.to ∧ x.out = y9.out)) == false))) (Bj := ((decide (0 ≤ x.to)) && (decide (x.to < (↑m.rows.length : Int)))) && (decide (0 ≤ x.out))) rfl rfl rfl (d0 rfl) rfl (fun hG hB => ph_fieldR fd27_1 pt_Mach1 a2 ((h2.mono le8).mono hle))
  · intro l R24q hle ha hd
    obtain ⟨d0, d1, _⟩ := hd
    have f28g : phG ((true && ((decide (x.to = y9.to ∧ x.out = y9.out)) == false)) && ((((decide (0 ≤ x.to)) && (decide (x.to < (↑m.rows.length : Int)))) && (decide (0 ≤ x.out))) == true)) (phP (tInt .i64) m.outputs) (l 28) R24q := d0 rfl
    exact gstep_guard (Gj := (true && ((decide (x.to = y9.to ∧ x.out = y9.out)) == false))) (Bj := ((decide (0 ≤ x.to)) && (decide (x.to < (↑m.rows.length : Int)))) && (decide (0 ≤ x.out))) rfl rfl rfl (d1 rfl) rfl (fun hG hB => ph_exact (ph_loadR ty3 rfl (f28g.1 (gandT hG hB))) (fun _ _ h => vrep_int.1 h))
  · intro l R25q hle ha hd
    obtain ⟨d0, d1, d2, _⟩ := hd
    have f27g : phG ((true && ((decide (x.to = y9.to ∧ x.out = y9.out)) == false)) && ((((decide (0 ≤ x.to)) && (decide (x.to < (↑m.rows.length : Int)))) && (decide (0 ≤ x.out))) == true)) (phX (.int .i64 x.out)) (l 27) R25q := d0 rfl
    have f29g : phG ((true && ((decide (x.to = y9.to ∧ x.out = y9.out)) == false)) && ((((decide (0 ≤ x.to)) && (decide (x.to < (↑m.rows.length : Int)))) && (decide (0 ≤ x.out))) == true)) (phX (.int .i64 m.outputs)) (l 29) R25q := d1 rfl
    exact gstep_guard (Gj := (true && ((decide (x.to = y9.to ∧ x.out = y9.out)) == false))) (Bj := ((decide (0 ≤ x.to)) && (decide (x.to < (↑m.rows.length : Int)))) && (decide (0 ≤ x.out))) rfl rfl rfl (d2 rfl) rfl (fun hG hB => ph_val (val_lss (show l 27 = (.int .i64 x.out) from f27g.1 (gandT hG hB)) (show l 29 = (.int .i64 m.outputs) from f29g.1 (gandT hG hB))))
  · intro l R26q hle ha hd
    obtain ⟨d0, d1, d2, _⟩ := hd
    have f25g : phG (true && ((decide (x.to = y9.to ∧ x.out = y9.out)) == false)) (phX (.bool (((decide (0 ≤ x.to)) && (decide (x.to < (↑m.rows.length : Int)))) && (decide (0 ≤ x.out))))) (l 25) R26q := d0 rfl
    have f30g : phG ((true && ((decide (x.to = y9.to ∧ x.out = y9.out)) == false)) && ((((decide (0 ≤ x.to)) && (decide (x.to < (↑m.rows.length : Int)))) && (decide (0 ≤ x.out))) == true)) (phX (.bool (decide (x.out < m.outputs)))) (l 30) R26q := d1 rfl
    exact gstep_guard (Gj := true) (Bj := decide (x.to = y9.to ∧ x.out = y9.out)) rfl rfl rfl (gtrue (d2 rfl)) rfl (fun hG hB => ph_val (val_and (show l 25 = (.bool (((decide (0 ≤ x.to)) && (decide (x.to < (↑m.rows.length : Int)))) && (decide (0 ≤ x.out)))) from f25g.1 (gandT rfl hB)) (fun hb => (show l 30 = (.bool (decide (x.out < m.outputs))) from f30g.1 (gandT (gandT rfl hB) hb))) rfl))
  · intro l R27q hle ha hd
    obtain ⟨d0, d1, _⟩ := hd
    have f8 : l 8 = (.bool (decide (x.to = y9.to ∧ x.out = y9.out))) := d0 rfl
    have f31g : phG (true && ((decide (x.to = y9.to ∧ x.out = y9.out)) == false)) (phX (.bool ((((decide (0 ≤ x.to)) && (decide (x.to < (↑m.rows.length : Int)))) && (decide (0 ≤ x.out))) && (decide (x.out < m.outputs))))) (l 31) R27q := d1 rfl
    exact gstep_plain rfl rfl rfl (ph_val (val_or f8 rfl (fun hb => (show l 31 = (.bool ((((decide (0 ≤ x.to)) && (decide (x.to < (↑m.rows.length : Int)))) && (decide (0 ≤ x.out))) && (decide (x.out < m.outputs)))) from f31g.1 (gandT rfl hb)))))
  · intro l R28q hle ha hd
    obtain ⟨d0, d1, d2, d3, d4, d5, d6, d7, d8, d9, d10, d11, d12, d13, d14, d15, d16, d17, d18, d19, d20, d21, d22, d23, d24, d25, d26, d27, d28, d29, _⟩ := hd
    have f32 : l 32 = (.bool ((decide (x.to = y9.to ∧ x.out = y9.out)) || ((((decide (0 ≤ x.to)) && (decide (x.to < (↑m.rows.length : Int)))) && (decide (0 ≤ x.out))) && (decide (x.out < m.outputs))))) := d0 rfl
    exact gstep_plain rfl rfl rfl (ph_val (val_assign f32))
  intro v13 h14
  intro v15 h16
  intro v17 h18
  intro v19 h20
  intro v21 h22
  intro v23 h24
  intro v25 h26
  intro v27 h28
  intro v29 h30
  intro v31 h32
  intro v33 h34
  intro v35 h36
  intro v37 h38
  intro v39 h40
  intro v41 h42
  intro v43 h44
  intro v45 h46
  intro v47 h48
  intro v49 h50
  intro v51 h52
  intro v53 h54
  intro v55 h56
  intro v57 h58
  intro v59 h60
  intro v61 h62
  intro v63 h64
  intro v65 h66
  intro v67 h68
  intro v69 h70
  obtain rfl := Eq.symm h14
  obtain rfl := Eq.symm h16
  obtain rfl := Eq.symm h18
  obtain rfl := Eq.symm h20
  obtain rfl := Eq.symm h68
  obtain rfl := Eq.symm h70
  refine wo_nil ?_
  refine wg_ret ?_
  obtain rfl := Option.some.inj hd0
  refine body_end (D := []) (J := []) (rs := [.tmp 4]) (vs := [(.bool ((decide (x.to = y9.to ∧ x.out = y9.out)) || ((((decide (0 ≤ x.to)) && (decide (x.to < (↑m.rows.length : Int)))) && (decide (0 ≤ x.out))) && (decide (x.out < m.outputs)))))]) ((le4.trans le8).trans le12) rfl rfl ⟨rfl, trivial⟩ ?_
  exact ⟨rfl, rfl⟩
theorem en49 : Enters Try.prog 49 := enters_of Try.func49 rfl (by kernel_rfl)
theorem c_machines_Check_1 {N : Nat} {R : RH} {x : Edge} {p0_ : Mach} {v_p0_ : Value} (h_p0_ : PRep (kMach false false) R v_p0_ p0_) {r : Bool} (hd0 : machines_Check_1 N x p0_ = some r) : CallP Try.prog 48 #[(enc_Edge x), v_p0_] R (fun v R' => v = (.bool r)) := by
  refine callP_of_wg (args := [(enc_Edge x), v_p0_]) Try.func48 rfl rfl fun A => ?_
  rw [machines_Check_1] at hd0
  refine wg_seq ?_
  refine wg_region ?_
  refine wo_boxR (T := kEdge) rfl rfl (vrep_Edge.2 rfl) fun v1 R3 le4 h2 => ?_
  refine wo_v rfl (val_assign (v := (.bool false)) rfl) ?_
  refine wo_nil ?_
  refine wg_seq ?_
  refine wg_region ?_
  refine wo_loadR rfl ty27 rfl (h_p0_.mono le4) fun v5 h6 => ?_
  refine wo_loadR rfl ty40 rfl h2 fun v7 h8 => ?_
  obtain rfl := vrep_Edge.1 h8
  replace hd0 := bd_some hd0; obtain ⟨y9, c10, hd0⟩ := hd0
  refine wo_callP rfl en49 rfl (c_machines_fits h6 c10) fun v11 R13 le14 h12 => ?_
  obtain rfl := h12
  refine wo_v rfl (val_not rfl) ?_
  refine wo_v rfl (val_assign (v := (.bool (!y9))) rfl) ?_
  refine wo_nil ?_
  refine wg_ret ?_
  obtain rfl := Option.some.inj hd0
  refine body_end (D := []) (J := []) (rs := [.tmp 3]) (vs := [(.bool (!y9))]) (le4.trans le14) rfl rfl ⟨rfl, trivial⟩ ?_
  exact ⟨rfl, rfl⟩
theorem en48 : Enters Try.prog 48 := enters_of Try.func48 rfl (by kernel_rfl)
theorem c_machines_Check {N : Nat} {R : RH} {m : Mach} {v_m : Value} (h_m : VRep (kMach false false) R v_m m) {r : Int} (hd0 : machines_Check N m = some r) : CallP Try.prog 31 #[v_m] R (fun v R' => v = (.int .i64 r)) := by
  refine callP_of_wg (args := [v_m]) Try.func31 rfl rfl fun A => ?_
  rw [machines_Check] at hd0
  refine wg_seq ?_
  refine wg_region ?_
  refine wo_boxR (T := (kMach false false)) rfl rfl h_m fun v1 R3 le4 h2 => ?_
  refine wo_v rfl (val_assign (v := (.int .i64 0)) rfl) ?_
  refine wo_nil ?_
  refine wg_seq ?_
  refine wg_seq ?_
  refine wg_guarded 14 [] [phP (tInt .i64) m.inputs, phX (.int .i64 m.inputs), phX (.bool (decide (16 < m.inputs))), phX (.bool (decide (16 < m.inputs))), phG (true && ((decide (16 < m.inputs)) == false)) (phP (tInt .i64) m.outputs), phG (true && ((decide (16 < m.inputs)) == false)) (phX (.int .i64 m.outputs)), phG (true && ((decide (16 < m.inputs)) == false)) (phX (.bool (decide (16 < m.outputs)))), phX (.bool ((decide (16 < m.inputs)) || (decide (16 < m.outputs)))), phX (.bool ((decide (16 < m.inputs)) || (decide (16 < m.outputs)))), phG (true && (((decide (16 < m.inputs)) || (decide (16 < m.outputs))) == false)) (phP (tSl false (tSl false kEdge)) m.rows), phG (true && (((decide (16 < m.inputs)) || (decide (16 < m.outputs))) == false)) (phR (tSl false (tSl false kEdge)) m.rows), phG (true && (((decide (16 < m.inputs)) || (decide (16 < m.outputs))) == false)) (phX (.int .i64 (↑m.rows.length : Int))), phG (true && (((decide (16 < m.inputs)) || (decide (16 < m.outputs))) == false)) (phX (.bool (decide (64 < (↑m.rows.length : Int))))), phX (.bool (((decide (16 < m.inputs)) || (decide (16 < m.outputs))) || (decide (64 < (↑m.rows.length : Int)))))] (by kernel_rfl) (by kernel_rfl) (monoOk_of ⟨mono_p, mono_x, mono_x, mono_x, (mono_g mono_p), (mono_g mono_x), (mono_g mono_x), mono_x, mono_x, (mono_g mono_p), (mono_g mono_r), (mono_g mono_x), (mono_g mono_x), mono_x, trivial⟩) ⟨?_, ?_, ?_, ?_, ?_, ?_, ?_, ?_, ?_, ?_, ?_, ?_, ?_, ?_, trivial⟩ fun R5 le6 => ?_
  · intro l R0q hle ha hd
    have a1 : l 1 = v1 := ha 1 rfl
    exact gstep_plain rfl rfl rfl (ph_fieldR fd27_0 pt_Mach0 a1 (h2.mono hle))
  · intro l R1q hle ha hd
    obtain ⟨d0, _⟩ := hd
    have f5 : phP (tInt .i64) m.inputs (l 5) R1q := d0 rfl
    exact gstep_plain rfl rfl rfl (ph_exact (ph_loadR ty3 rfl f5) (fun _ _ h => vrep_int.1 h))
  · intro l R2q hle ha hd
    obtain ⟨d0, _⟩ := hd
    have f6 : l 6 = (.int .i64 m.inputs) := d0 rfl
    exact gstep_plain rfl rfl rfl (ph_val (val_gtr f6 rfl))
  · intro l R3q hle ha hd
    obtain ⟨d0, _⟩ := hd
    have f7 : l 7 = (.bool (decide (16 < m.inputs))) := d0 rfl
    exact gstep_plain rfl rfl rfl (ph_val (val_move f7))
  · intro l R4q hle ha hd
    obtain ⟨d0, _⟩ := hd
    have a1 : l 1 = v1 := ha 1 rfl
    exact gstep_guard (Gj := true) (Bj := decide (16 < m.inputs)) rfl rfl rfl (gtrue (d0 rfl)) rfl (fun hG hB => ph_fieldR fd27_1 pt_Mach1 a1 (h2.mono hle))
  · intro l R5q hle ha hd
    obtain ⟨d0, d1, _⟩ := hd
    have f9g : phG (true && ((decide (16 < m.inputs)) == false)) (phP (tInt .i64) m.outputs) (l 9) R5q := d0 rfl
    exact gstep_guard (Gj := true) (Bj := decide (16 < m.inputs)) rfl rfl rfl (gtrue (d1 rfl)) rfl (fun hG hB => ph_exact (ph_loadR ty3 rfl (f9g.1 (gandT rfl hB))) (fun _ _ h => vrep_int.1 h))
  · intro l R6q hle ha hd
    obtain ⟨d0, d1, _⟩ := hd
    have f10g : phG (true && ((decide (16 < m.inputs)) == false)) (phX (.int .i64 m.outputs)) (l 10) R6q := d0 rfl
    exact gstep_guard (Gj := true) (Bj := decide (16 < m.inputs)) rfl rfl rfl (gtrue (d1 rfl)) rfl (fun hG hB => ph_val (val_gtr (show l 10 = (.int .i64 m.outputs) from f10g.1 (gandT rfl hB)) rfl))
  · intro l R7q hle ha hd
    obtain ⟨d0, d1, _⟩ := hd
    have f8 : l 8 = (.bool (decide (16 < m.inputs))) := d0 rfl
    have f11g : phG (true && ((decide (16 < m.inputs)) == false)) (phX (.bool (decide (16 < m.outputs)))) (l 11) R7q := d1 rfl
    exact gstep_plain rfl rfl rfl (ph_val (val_or f8 rfl (fun hb => (show l 11 = (.bool (decide (16 < m.outputs))) from f11g.1 (gandT rfl hb)))))
  · intro l R8q hle ha hd
    obtain ⟨d0, d1, _⟩ := hd
    have f12 : l 12 = (.bool ((decide (16 < m.inputs)) || (decide (16 < m.outputs)))) := d0 rfl
    exact gstep_plain rfl rfl rfl (ph_val (val_move f12))
  · intro l R9q hle ha hd
    obtain ⟨d0, _⟩ := hd
    have a1 : l 1 = v1 := ha 1 rfl
    exact gstep_guard (Gj := true) (Bj := (decide (16 < m.inputs)) || (decide (16 < m.outputs))) rfl rfl rfl (gtrue (d0 rfl)) rfl (fun hG hB => ph_fieldR fd27_2 pt_Mach2 a1 (h2.mono hle))
  · intro l R10q hle ha hd
    obtain ⟨d0, d1, _⟩ := hd
    have f14g : phG (true && (((decide (16 < m.inputs)) || (decide (16 < m.outputs))) == false)) (phP (tSl false (tSl false kEdge)) m.rows) (l 14) R10q := d0 rfl
    exact gstep_guard (Gj := true) (Bj := (decide (16 < m.inputs)) || (decide (16 < m.outputs))) rfl rfl rfl (gtrue (d1 rfl)) rfl (fun hG hB => ph_loadR ty25 rfl (f14g.1 (gandT rfl hB)))
  · intro l R11q hle ha hd
    obtain ⟨d0, d1, _⟩ := hd
    have f15g : phG (true && (((decide (16 < m.inputs)) || (decide (16 < m.outputs))) == false)) (phR (tSl false (tSl false kEdge)) m.rows) (l 15) R11q := d0 rfl
    exact gstep_guard (Gj := true) (Bj := (decide (16 < m.inputs)) || (decide (16 < m.outputs))) rfl rfl rfl (gtrue (d1 rfl)) rfl (fun hG hB => ph_val (val_lenR rfl Try.underlying25 rfl (sl_s (f15g.1 (gandT rfl hB)))))
  · intro l R12q hle ha hd
    obtain ⟨d0, d1, _⟩ := hd
    have f16g : phG (true && (((decide (16 < m.inputs)) || (decide (16 < m.outputs))) == false)) (phX (.int .i64 (↑m.rows.length : Int))) (l 16) R12q := d0 rfl
    exact gstep_guard (Gj := true) (Bj := (decide (16 < m.inputs)) || (decide (16 < m.outputs))) rfl rfl rfl (gtrue (d1 rfl)) rfl (fun hG hB => ph_val (val_gtr (show l 16 = (.int .i64 (↑m.rows.length : Int)) from f16g.1 (gandT rfl hB)) rfl))
  · intro l R13q hle ha hd
    obtain ⟨d0, d1, _⟩ := hd
    have f13 : l 13 = (.bool ((decide (16 < m.inputs)) || (decide (16 < m.outputs)))) := d0 rfl
    have f17g : phG (true && (((decide (16 < m.inputs)) || (decide (16 < m.outputs))) == false)) (phX (.bool (decide (64 < (↑m.rows.length : Int))))) (l 17) R13q := d1 rfl
    exact gstep_plain rfl rfl rfl (ph_val (val_or f13 rfl (fun hb => (show l 17 = (.bool (decide (64 < (↑m.rows.length : Int)))) from f17g.1 (gandT rfl hb)))))
  intro v7 h8
  intro v9 h10
  intro v11 h12
  intro v13 h14
  intro v15 h16
  intro v17 h18
  intro v19 h20
  intro v21 h22
  intro v23 h24
  intro v25 h26
  intro v27 h28
  intro v29 h30
  intro v31 h32
  intro v33 h34
  obtain rfl := Eq.symm h10
  obtain rfl := Eq.symm h12
  obtain rfl := Eq.symm h14
  obtain rfl := Eq.symm h22
  obtain rfl := Eq.symm h24
  obtain rfl := Eq.symm h34
  refine wo_nil ?_
  refine wg_cond rfl (fun e35 => ?_) (fun e35 => ?_)
  · replace hd0 := sel_t e35 hd0; clear e35
    refine wg_seq ?_
    refine wg_region ?_
    refine wo_v rfl (val_assign (v := (.int .i64 3)) rfl) ?_
    refine wo_nil ?_
    refine wg_ret ?_
    obtain rfl := Option.some.inj hd0
    refine body_end (D := []) (J := []) (rs := [.tmp 2]) (vs := [(.int .i64 3)]) (le4.trans le6) rfl rfl ⟨rfl, trivial⟩ ?_
    exact ⟨rfl, rfl⟩
  · replace hd0 := sel_f e35 hd0; clear e35
    refine wg_skip ?_
    refine wg_seq ?_
    refine wg_seq ?_
    refine wg_guarded 14 [] [phP (tInt .i64) m.inputs, phX (.int .i64 m.inputs), phX (.bool (decide (m.inputs < 1))), phX (.bool (decide (m.inputs < 1))), phG (true && ((decide (m.inputs < 1)) == false)) (phP (tInt .i64) m.outputs), phG (true && ((decide (m.inputs < 1)) == false)) (phX (.int .i64 m.outputs)), phG (true && ((decide (m.inputs < 1)) == false)) (phX (.bool (decide (m.outputs < 1)))), phX (.bool ((decide (m.inputs < 1)) || (decide (m.outputs < 1)))), phX (.bool ((decide (m.inputs < 1)) || (decide (m.outputs < 1)))), phG (true && (((decide (m.inputs < 1)) || (decide (m.outputs < 1))) == false)) (phP (tSl false (tSl false kEdge)) m.rows), phG (true && (((decide (m.inputs < 1)) || (decide (m.outputs < 1))) == false)) (phR (tSl false (tSl false kEdge)) m.rows), phG (true && (((decide (m.inputs < 1)) || (decide (m.outputs < 1))) == false)) (phX (.int .i64 (↑m.rows.length : Int))), phG (true && (((decide (m.inputs < 1)) || (decide (m.outputs < 1))) == false)) (phX (.bool (decide ((↑m.rows.length : Int) < 1)))), phX (.bool (((decide (m.inputs < 1)) || (decide (m.outputs < 1))) || (decide ((↑m.rows.length : Int) < 1))))] (by kernel_rfl) (by kernel_rfl) (monoOk_of ⟨mono_p, mono_x, mono_x, mono_x, (mono_g mono_p), (mono_g mono_x), (mono_g mono_x), mono_x, mono_x, (mono_g mono_p), (mono_g mono_r), (mono_g mono_x), (mono_g mono_x), mono_x, trivial⟩) ⟨?_, ?_, ?_, ?_, ?_, ?_, ?_, ?_, ?_, ?_, ?_, ?_, ?_, ?_, trivial⟩ fun R36 le37 => ?_
    · intro l R0q hle ha hd
      have a1 : l 1 = v1 := ha 1 rfl
      exact gstep_plain rfl rfl rfl (ph_fieldR fd27_0 pt_Mach0 a1 ((h2.mono le6).mono hle))
    · intro l R1q hle ha hd
      obtain ⟨d0, _⟩ := hd
      have f19 : phP (tInt .i64) m.inputs (l 19) R1q := d0 rfl
      exact gstep_plain rfl rfl rfl (ph_exact (ph_loadR ty3 rfl f19) (fun _ _ h => vrep_int.1 h))
    · intro l R2q hle ha hd
      obtain ⟨d0, _⟩ := hd
      have f20 : l 20 = (.int .i64 m.inputs) := d0 rfl
      exact gstep_plain rfl rfl rfl (ph_val (val_lss f20 rfl))
    · intro l R3q hle ha hd
      obtain ⟨d0, _⟩ := hd
      have f21 : l 21 = (.bool (decide (m.inputs < 1))) := d0 rfl
      exact gstep_plain rfl rfl rfl (ph_val (val_move f21))
    · intro l R4q hle ha hd
      obtain ⟨d0, _⟩ := hd
      have a1 : l 1 = v1 := ha 1 rfl
      exact gstep_guard (Gj := true) (Bj := decide (m.inputs < 1)) rfl rfl rfl (gtrue (d0 rfl)) rfl (fun hG hB => ph_fieldR fd27_1 pt_Mach1 a1 ((h2.mono le6).mono hle))
    · intro l R5q hle ha hd
      obtain ⟨d0, d1, _⟩ := hd
      have f23g : phG (true && ((decide (m.inputs < 1)) == false)) (phP (tInt .i64) m.outputs) (l 23) R5q := d0 rfl
      exact gstep_guard (Gj := true) (Bj := decide (m.inputs < 1)) rfl rfl rfl (gtrue (d1 rfl)) rfl (fun hG hB => ph_exact (ph_loadR ty3 rfl (f23g.1 (gandT rfl hB))) (fun _ _ h => vrep_int.1 h))
    · intro l R6q hle ha hd
      obtain ⟨d0, d1, _⟩ := hd
      have f24g : phG (true && ((decide (m.inputs < 1)) == false)) (phX (.int .i64 m.outputs)) (l 24) R6q := d0 rfl
      exact gstep_guard (Gj := true) (Bj := decide (m.inputs < 1)) rfl rfl rfl (gtrue (d1 rfl)) rfl (fun hG hB => ph_val (val_lss (show l 24 = (.int .i64 m.outputs) from f24g.1 (gandT rfl hB)) rfl))
    · intro l R7q hle ha hd
      obtain ⟨d0, d1, _⟩ := hd
      have f22 : l 22 = (.bool (decide (m.inputs < 1))) := d0 rfl
      have f25g : phG (true && ((decide (m.inputs < 1)) == false)) (phX (.bool (decide (m.outputs < 1)))) (l 25) R7q := d1 rfl
      exact gstep_plain rfl rfl rfl (ph_val (val_or f22 rfl (fun hb => (show l 25 = (.bool (decide (m.outputs < 1))) from f25g.1 (gandT rfl hb)))))
    · intro l R8q hle ha hd
      obtain ⟨d0, d1, _⟩ := hd
      have f26 : l 26 = (.bool ((decide (m.inputs < 1)) || (decide (m.outputs < 1)))) := d0 rfl
      exact gstep_plain rfl rfl rfl (ph_val (val_move f26))
    · intro l R9q hle ha hd
      obtain ⟨d0, _⟩ := hd
      have a1 : l 1 = v1 := ha 1 rfl
      exact gstep_guard (Gj := true) (Bj := (decide (m.inputs < 1)) || (decide (m.outputs < 1))) rfl rfl rfl (gtrue (d0 rfl)) rfl (fun hG hB => ph_fieldR fd27_2 pt_Mach2 a1 ((h2.mono le6).mono hle))
    · intro l R10q hle ha hd
      obtain ⟨d0, d1, _⟩ := hd
      have f28g : phG (true && (((decide (m.inputs < 1)) || (decide (m.outputs < 1))) == false)) (phP (tSl false (tSl false kEdge)) m.rows) (l 28) R10q := d0 rfl
      exact gstep_guard (Gj := true) (Bj := (decide (m.inputs < 1)) || (decide (m.outputs < 1))) rfl rfl rfl (gtrue (d1 rfl)) rfl (fun hG hB => ph_loadR ty25 rfl (f28g.1 (gandT rfl hB)))
    · intro l R11q hle ha hd
      obtain ⟨d0, d1, _⟩ := hd
      have f29g : phG (true && (((decide (m.inputs < 1)) || (decide (m.outputs < 1))) == false)) (phR (tSl false (tSl false kEdge)) m.rows) (l 29) R11q := d0 rfl
      exact gstep_guard (Gj := true) (Bj := (decide (m.inputs < 1)) || (decide (m.outputs < 1))) rfl rfl rfl (gtrue (d1 rfl)) rfl (fun hG hB => ph_val (val_lenR rfl Try.underlying25 rfl (sl_s (f29g.1 (gandT rfl hB)))))
    · intro l R12q hle ha hd
      obtain ⟨d0, d1, _⟩ := hd
      have f30g : phG (true && (((decide (m.inputs < 1)) || (decide (m.outputs < 1))) == false)) (phX (.int .i64 (↑m.rows.length : Int))) (l 30) R12q := d0 rfl
      exact gstep_guard (Gj := true) (Bj := (decide (m.inputs < 1)) || (decide (m.outputs < 1))) rfl rfl rfl (gtrue (d1 rfl)) rfl (fun hG hB => ph_val (val_lss (show l 30 = (.int .i64 (↑m.rows.length : Int)) from f30g.1 (gandT rfl hB)) rfl))
    · intro l R13q hle ha hd
      obtain ⟨d0, d1, _⟩ := hd
      have f27 : l 27 = (.bool ((decide (m.inputs < 1)) || (decide (m.outputs < 1)))) := d0 rfl
      have f31g : phG (true && (((decide (m.inputs < 1)) || (decide (m.outputs < 1))) == false)) (phX (.bool (decide ((↑m.rows.length : Int) < 1)))) (l 31) R13q := d1 rfl
      exact gstep_plain rfl rfl rfl (ph_val (val_or f27 rfl (fun hb => (show l 31 = (.bool (decide ((↑m.rows.length : Int) < 1))) from f31g.1 (gandT rfl hb)))))
    intro v38 h39
    intro v40 h41
    intro v42 h43
    intro v44 h45
    intro v46 h47
    intro v48 h49
    intro v50 h51
    intro v52 h53
    intro v54 h55
    intro v56 h57
    intro v58 h59
    intro v60 h61
    intro v62 h63
    intro v64 h65
    obtain rfl := Eq.symm h41
    obtain rfl := Eq.symm h43
    obtain rfl := Eq.symm h45
    obtain rfl := Eq.symm h53
    obtain rfl := Eq.symm h55
    obtain rfl := Eq.symm h65
    refine wo_nil ?_
    refine wg_cond rfl (fun e66 => ?_) (fun e66 => ?_)
    · replace hd0 := sel_t e66 hd0; clear e66
      refine wg_seq ?_
      refine wg_region ?_
      refine wo_v rfl (val_assign (v := (.int .i64 1)) rfl) ?_
      refine wo_nil ?_
      refine wg_ret ?_
      obtain rfl := Option.some.inj hd0
      refine body_end (D := []) (J := []) (rs := [.tmp 2]) (vs := [(.int .i64 1)]) ((le4.trans le6).trans le37) rfl rfl ⟨rfl, trivial⟩ ?_
      exact ⟨rfl, rfl⟩
    · replace hd0 := sel_f e66 hd0; clear e66
      refine wg_skip ?_
      replace hd0 := bd_some hd0; obtain ⟨q68, hd1, hd0⟩ := hd0
      refine wg_meet (γ := Unit) true [33, 34, 35, 36, 37, 38, 39, 4, 40, 41, 42, 43, 44, 45, 46, 47, 48, 49, 2, 50] (fun g => []) (fun g => [] ++ A) (fun g R => q68 = Ex.go g ∧ True) ?_ ?_
      ·
        refine wg_seq ?_
        refine wg_region ?_
        refine wo_fieldR rfl fd27_2 pt_Mach2 rfl (h2.mono (le6.trans le37)) fun v71 h72 => ?_
        refine wo_loadR rfl ty25 rfl h72 fun v73 h74 => ?_
        refine wo_v rfl (val_lenR rfl Try.underlying25 rfl (sl_s h74)) ?_
        refine wo_v rfl (val_move (v := (.int .i64 0)) rfl) ?_
        refine wo_nil ?_
        refine wg_block ?_
        refine wg_loopS (γ := Nat × Int) true [37, 38, 39, 4, 40, 41, 42, 43, 44, 45, 46, 47, 48, 49, 2, 50, 36] (fun g => [(36, (.int .i64 g.2))]) (fun g => [] ++ A) (fun g R => machines_Check_L1 N m g.1 g.2 = some q68 ∧ True) (fun g => g.1) (N, 0) ⟨rfl, trivial⟩ ⟨[], List.Perm.refl _⟩ ⟨hd1, trivial⟩ (fun _ => rfl) ?_
        clear hd1
        rintro ⟨F75, x76⟩ j111 D112 R77 hD113 le78 ⟨hd1, _⟩
        obtain rfl := hD113 rfl
        rcases F75 with _ | F75
        · exact none_elim hd1
        replace hd1 : machines_Check_L1 N m (F75 + 1) x76 = some q68 := hd1; rw [machines_Check_L1] at hd1
        refine wg_seq ?_
        refine wg_region ?_
        refine wo_v rfl (val_lss rfl rfl) ?_
        refine wo_nil ?_
        refine wg_seq ?_
        refine wg_cond rfl (fun e79 => ?_) (fun e79 => ?_)
        · replace hd1 := sel_t e79 hd1; clear e79
          refine wg_skip ?_
          refine wg_seq ?_
          refine wg_block ?_
          refine wg_seq ?_
          refine wg_region ?_
          have g80 := (gd_some hd1).1; replace hd1 := (gd_some hd1).2
          refine wo_indexR (i := x76.toNat) rfl sl25 rfl (sl_s (h74.mono le78)) (idx_nonneg rfl g80.1) (okI_lt g80) fun v81 h82 => ?_
          refine wo_loadR rfl ty41 rfl h82 fun v83 h84 => ?_
          refine wo_v rfl (val_assign (v := v83) rfl) ?_
          refine wo_nil ?_
          refine wg_seq ?_
          replace hd1 := bd_some hd1; obtain ⟨y85, c86, hd1⟩ := hd1
          refine wg_guarded 10 [] [phX v83, phX (.int .i64 (↑(ix m.rows x76).length : Int)), phP (tInt .i64) m.inputs, phX (.int .i64 m.inputs), phX (.bool (decide ((↑(ix m.rows x76).length : Int) ≠ m.inputs))), phX (.bool (decide ((↑(ix m.rows x76).length : Int) ≠ m.inputs))), phG (true && ((decide ((↑(ix m.rows x76).length : Int) ≠ m.inputs)) == false)) (phX v83), phG (true && ((decide ((↑(ix m.rows x76).length : Int) ≠ m.inputs)) == false)) (phX (.func (.func 48) #[] #[v1])), phG (true && ((decide ((↑(ix m.rows x76).length : Int) ≠ m.inputs)) == false)) (phX (.bool (y85.getD default))), phX (.bool ((decide ((↑(ix m.rows x76).length : Int) ≠ m.inputs)) || (y85.getD default)))] (by kernel_rfl) (by kernel_rfl) (monoOk_of ⟨mono_x, mono_x, mono_p, mono_x, mono_x, mono_x, (mono_g mono_x), (mono_g mono_x), (mono_g mono_x), mono_x, trivial⟩) ⟨?_, ?_, ?_, ?_, ?_, ?_, ?_, ?_, ?_, ?_, trivial⟩ fun R87 le88 => ?_
          · intro l R0q hle ha hd
            have a4 : l 4 = v83 := ha 4 rfl
            exact gstep_plain rfl rfl rfl (ph_val (val_move a4))
          · intro l R1q hle ha hd
            obtain ⟨d0, _⟩ := hd
            have f40 : l 40 = v83 := d0 rfl
            exact gstep_plain rfl rfl rfl (ph_val (val_lenR rfl Try.underlying41 f40 (sl_s (h84.mono hle))))
          · intro l R2q hle ha hd
            have a1 : l 1 = v1 := ha 1 rfl
            exact gstep_plain rfl rfl rfl (ph_fieldR fd27_0 pt_Mach0 a1 ((h2.mono ((le6.trans le37).trans le78)).mono hle))
          · intro l R3q hle ha hd
            obtain ⟨d0, _⟩ := hd
            have f42 : phP (tInt .i64) m.inputs (l 42) R3q := d0 rfl
            exact gstep_plain rfl rfl rfl (ph_exact (ph_loadR ty3 rfl f42) (fun _ _ h => vrep_int.1 h))
          · intro l R4q hle ha hd
            obtain ⟨d0, d1, _⟩ := hd
            have f41 : l 41 = (.int .i64 (↑(ix m.rows x76).length : Int)) := d0 rfl
            have f43 : l 43 = (.int .i64 m.inputs) := d1 rfl
            exact gstep_plain rfl rfl rfl (ph_val (val_neq f41 f43))
          · intro l R5q hle ha hd
            obtain ⟨d0, _⟩ := hd
            have f44 : l 44 = (.bool (decide ((↑(ix m.rows x76).length : Int) ≠ m.inputs))) := d0 rfl
            exact gstep_plain rfl rfl rfl (ph_val (val_move f44))
          · intro l R6q hle ha hd
            obtain ⟨d0, _⟩ := hd
            have a4 : l 4 = v83 := ha 4 rfl
            exact gstep_guard (Gj := true) (Bj := decide ((↑(ix m.rows x76).length : Int) ≠ m.inputs)) rfl rfl rfl (gtrue (d0 rfl)) rfl (fun hG hB => ph_val (val_move a4))
          · intro l R7q hle ha hd
            obtain ⟨d0, _⟩ := hd
            have a1 : l 1 = v1 := ha 1 rfl
            exact gstep_guard (Gj := true) (Bj := decide ((↑(ix m.rows x76).length : Int) ≠ m.inputs)) rfl rfl rfl (gtrue (d0 rfl)) rfl (fun hG hB => ph_val (val_makeFuncL (fs := []) (cs := [v1]) rfl (by simp only [List.map, ev, a1] <;> rfl)))
          · intro l R8q hle ha hd
            obtain ⟨d0, d1, d2, d3, _⟩ := hd
            have f46g : phG (true && ((decide ((↑(ix m.rows x76).length : Int) ≠ m.inputs)) == false)) (phX v83) (l 46) R8q := d0 rfl
            have f47g : phG (true && ((decide ((↑(ix m.rows x76).length : Int) ≠ m.inputs)) == false)) (phX (.func (.func 48) #[] #[v1])) (l 47) R8q := d1 rfl
            exact gstep_guard (Gj := true) (Bj := decide ((↑(ix m.rows x76).length : Int) ≠ m.inputs)) rfl rfl rfl (gtrue (d2 rfl)) rfl (fun hG hB => ph_callP en47 (by simp only [List.map, ev, (show l 46 = v83 from f46g.1 (gandT rfl hB)), (show l 47 = (.func (.func 48) #[] #[v1]) from f47g.1 (gandT rfl hB))] <;> rfl) (c_slices_ContainsFunc_api_Edge (h84.mono hle) ((fok1_of (cs := [v1]) en48 fun R1 hq z0 u0 y k0 hy => by obtain rfl := vrep_Edge.1 k0; exact CallP.mono (c_machines_Check_1 ((h2.mono ((le6.trans le37).trans le78)).mono hq) hy) fun v R2 _ hv => vrep_bool.2 hv).mono hle) (gop_def c86 (gandT hG hB))) (fun _ _ h => h))
          · intro l R9q hle ha hd
            obtain ⟨d0, d1, _⟩ := hd
            have f45 : l 45 = (.bool (decide ((↑(ix m.rows x76).length : Int) ≠ m.inputs))) := d0 rfl
            have f48g : phG (true && ((decide ((↑(ix m.rows x76).length : Int) ≠ m.inputs)) == false)) (phX (.bool (y85.getD default))) (l 48) R9q := d1 rfl
            exact gstep_plain rfl rfl rfl (ph_val (val_or f45 rfl (fun hb => (show l 48 = (.bool (y85.getD default)) from f48g.1 (gandT rfl hb)))))
          intro v89 h90
          intro v91 h92
          intro v93 h94
          intro v95 h96
          intro v97 h98
          intro v99 h100
          intro v101 h102
          intro v103 h104
          intro v105 h106
          intro v107 h108
          obtain rfl := Eq.symm h90
          obtain rfl := Eq.symm h92
          obtain rfl := Eq.symm h96
          obtain rfl := Eq.symm h98
          obtain rfl := Eq.symm h100
          obtain rfl := Eq.symm h108
          refine wo_nil ?_
          refine wg_cond rfl (fun e109 => ?_) (fun e109 => ?_)
          · replace hd1 := sel_t e109 hd1; clear e109
            refine wg_seq ?_
            refine wg_region ?_
            refine wo_v rfl (val_assign (v := (.int .i64 1)) rfl) ?_
            refine wo_nil ?_
            refine wg_ret ?_
            replace hd0 := on_rt hd1 hd0
            obtain rfl := Option.some.inj hd0
            refine body_end (D := []) (J := []) (rs := [.tmp 2]) (vs := [(.int .i64 1)]) ((((le4.trans le6).trans le37).trans le78).trans le88) rfl rfl ⟨rfl, trivial⟩ ?_
            exact ⟨rfl, rfl⟩
          · replace hd1 := sel_f e109 hd1; clear e109
            refine wg_skip ?_
            refine wg_region ?_
            have g110 := (gd_some hd1).1; replace hd1 := (gd_some hd1).2
            refine wo_v rfl (val_add rfl rfl g110) ?_
            refine wo_v rfl (val_move (v := (.int .i64 (x76 + 1))) rfl) ?_
            refine wo_nil ?_
            exact ⟨(fun _ => rfl), le88, (by repeat (first | exact off_self | refine off_upd rfl ?_ | refine off_setl rfl ?_ | refine off_mask_sub rfl ?_)), (F75, x76 + 1), Nat.lt_succ_self _, ⟨rfl, trivial⟩, ⟨[], List.Perm.refl _⟩, hd1, trivial⟩
        · replace hd1 := sel_f e79 hd1; clear e79
          refine wg_exit ?_
          exact ⟨(fun _ => rfl), le78, (by repeat (first | exact off_self | refine off_upd rfl ?_ | refine off_setl rfl ?_ | refine off_mask_sub rfl ?_)), (), trivial, ⟨[], List.Perm.refl _⟩, (Option.some.inj hd1).symm, trivial⟩
      ·
        rintro o67 j114 D115 R69 hD116 le70 ⟨rfl, _⟩
        obtain rfl := hD116 rfl
        replace hd0 := on_go hd0
        refine wg_seq ?_
        refine wg_region ?_
        refine wo_v rfl (val_assign (v := (.int .i64 0)) rfl) ?_
        refine wo_nil ?_
        refine wg_ret ?_
        obtain rfl := Option.some.inj hd0
        refine body_end (D := []) (J := []) (rs := [.tmp 2]) (vs := [(.int .i64 0)]) (((le4.trans le6).trans le37).trans le70) rfl rfl ⟨rfl, trivial⟩ ?_
        exact ⟨rfl, rfl⟩
theorem en31 : Enters Try.prog 31 := enters_of Try.func31 rfl (by kernel_rfl)
theorem za34 : ∀ w, ∃ z, (zeroValue 34).run Try.prog w = .ok z w ∧ z.cells = ([.slice none 0 0] : List Value).toArray := fun w => ⟨(.slice none 0 0), by kernel_rfl, rfl⟩
theorem c_machines_edges {N : Nat} {R : RH} {m : Mach} {v_m : Value} (h_m : VRep (kMach false false) R v_m m) {r : Mach} (hd0 : machines_edges N m = some r) : CallP Try.prog 54 #[v_m] R (fun v R' => ∃ u0, v = .func (.func 61) #[] #[u0] ∧ PRep (kMach false false) R' u0 r) := by
  refine callP_of_wg (args := [v_m]) Try.func54 rfl rfl fun A => ?_
  rw [machines_edges] at hd0
  refine wg_seq ?_
  refine wg_region ?_
  refine wo_boxR (T := (kMach false false)) rfl rfl h_m fun v1 R3 le4 h2 => ?_
  refine wo_v rfl (val_assign (v := .nilFunc) rfl) ?_
  refine wo_nil ?_
  refine wg_seq ?_
  refine wg_region ?_
  refine wo_v rfl (val_makeFuncL (fs := []) (cs := [v1]) rfl rfl) ?_
  refine wo_v rfl (val_assign (v := (.func (.func 61) #[] #[v1])) rfl) ?_
  refine wo_nil ?_
  refine wg_ret ?_
  obtain rfl := Option.some.inj hd0
  refine body_end (D := []) (J := []) (rs := [.tmp 2]) (vs := [(.func (.func 61) #[] #[v1])]) le4 rfl rfl ⟨rfl, trivial⟩ ?_
  exact ⟨rfl, ⟨v1, rfl, h2⟩⟩
theorem en54 : Enters Try.prog 54 := enters_of Try.func54 rfl (by kernel_rfl)
theorem c_machines_edges_1 {N : Nat} {R : RH} {p0_ : Mach} {v_p0_ : Value} (h_p0_ : PRep (kMach false false) R v_p0_ p0_) : IterS Try.prog 61 [v_p0_] R (fun (x : ((Int × Int) × Edge)) vs R => vs = [(enc_A2tInti64 x.1), (enc_Edge x.2)]) (fun σ B s => machines_edges_1 N p0_ σ B s) := by
  intro yv σ B I R1 O s0 s1 hle0 hmI h0 hd0 hy
  refine callG_of_wg (args := [yv, v_p0_]) Try.func61 rfl rfl fun A => ?_
  dsimp only at hd0
  rw [machines_edges_1] at hd0
  refine wg_seq ?_
  refine wg_region ?_
  refine wo_fieldR rfl fd27_2 pt_Mach2 rfl (h_p0_.mono hle0) fun v1 h2 => ?_
  refine wo_loadR rfl ty25 rfl h2 fun v3 h4 => ?_
  refine wo_v rfl (val_lenR rfl Try.underlying25 rfl (sl_s h4)) ?_
  refine wo_v rfl (val_move (v := (.int .i64 0)) rfl) ?_
  refine wo_nil ?_
  refine wg_block ?_
  refine wg_loopS (γ := Nat × σ × Int × (List Frag)) true [11, 12, 13, 14, 3, 4, 15, 16, 17, 18, 19, 20, 21, 6, 5, 22, 23, 24, 25, 26, 27, 28, 29, 30, 10] (fun g => [(10, (.int .i64 g.2.2.1))]) (fun g => [] ++ (g.2.2.2 ++ A)) (fun g R => machines_edges_1_L1 N σ B p0_ g.1 g.2.1 g.2.2.1 = some s1 ∧ I g.2.1 R g.2.2.2 ∧ True) (fun g => g.1) (N, s0, 0, O) ⟨rfl, trivial⟩ ⟨[], List.Perm.refl _⟩ ⟨hd0, h0, trivial⟩ (fun _ => rfl) ?_
  clear hd0
  rintro ⟨F5, x6, x7, OJ10⟩ j54 D55 R8 hD56 le9 ⟨hd0, hi11, _⟩
  obtain rfl := hD56 rfl
  rcases F5 with _ | F5
  · exact none_elim hd0
  replace hd0 : machines_edges_1_L1 N σ B p0_ (F5 + 1) x6 x7 = some s1 := hd0; rw [machines_edges_1_L1] at hd0
  refine wg_seq ?_
  refine wg_region ?_
  refine wo_v rfl (val_lss rfl rfl) ?_
  refine wo_nil ?_
  refine wg_seq ?_
  refine wg_cond rfl (fun e12 => ?_) (fun e12 => ?_)
  · replace hd0 := sel_t e12 hd0; clear e12
    refine wg_skip ?_
    replace hd0 := bd_some hd0; obtain ⟨q14, hd1, hd0⟩ := hd0
    refine wg_meet (γ := σ × (List Frag)) true [12, 13, 14, 3, 4, 15, 16, 17, 18, 19, 20, 21, 6, 5, 22, 23, 24, 25, 26, 27, 28, 29] (fun g => []) (fun g => [] ++ (g.2 ++ A)) (fun g R => q14 = Ex.go g.1 ∧ I g.1 R g.2 ∧ True) ?_ ?_
    ·
      refine wg_block ?_
      refine wg_seq ?_
      refine wg_region ?_
      refine wo_v rfl (val_move (v := (.int .i64 x7)) rfl) ?_
      have g19 := (gd_some hd1).1; replace hd1 := (gd_some hd1).2
      refine wo_indexR (i := x7.toNat) rfl sl25 rfl (sl_s (h4.mono le9)) (idx_nonneg rfl g19.1) (okI_lt g19) fun v20 h21 => ?_
      refine wo_loadR rfl ty41 rfl h21 fun v22 h23 => ?_
      refine wo_v rfl (val_assign (v := (.int .i64 x7)) rfl) ?_
      refine wo_v rfl (val_assign (v := v22) rfl) ?_
      refine wo_nil ?_
      refine wg_seq ?_
      refine wg_region ?_
      refine wo_v rfl (val_move (v := v22) rfl) ?_
      refine wo_v rfl (val_lenR rfl Try.underlying41 rfl (sl_s h23)) ?_
      refine wo_v rfl (val_move (v := (.int .i64 0)) rfl) ?_
      refine wo_nil ?_
      refine wg_block ?_
      refine wg_loopS (γ := Nat × σ × Int × (List Frag)) true [18, 19, 20, 21, 6, 5, 22, 23, 24, 25, 26, 27, 28, 29, 17] (fun g => [(17, (.int .i64 g.2.2.1))]) (fun g => [] ++ (g.2.2.2 ++ A)) (fun g R => machines_edges_1_L2 N σ B p0_ x7 g.1 g.2.1 g.2.2.1 = some q14 ∧ I g.2.1 R g.2.2.2 ∧ True) (fun g => g.1) (N, x6, 0, OJ10) ⟨rfl, trivial⟩ ⟨[], List.Perm.refl _⟩ ⟨hd1, hi11, trivial⟩ (fun _ => rfl) ?_
      clear hd1
      rintro ⟨F24, x25, x26, OJ29⟩ j47 D48 R27 hD49 le28 ⟨hd1, hi30, _⟩
      obtain rfl := hD49 rfl
      rcases F24 with _ | F24
      · exact none_elim hd1
      replace hd1 : machines_edges_1_L2 N σ B p0_ x7 (F24 + 1) x25 x26 = some q14 := hd1; rw [machines_edges_1_L2] at hd1
      refine wg_seq ?_
      refine wg_region ?_
      refine wo_v rfl (val_lss rfl rfl) ?_
      refine wo_nil ?_
      refine wg_seq ?_
      refine wg_cond rfl (fun e31 => ?_) (fun e31 => ?_)
      · replace hd1 := sel_t e31 hd1; clear e31
        refine wg_skip ?_
        refine wg_seq ?_
        refine wg_block ?_
        refine wg_seq ?_
        refine wg_region ?_
        refine wo_v rfl (val_move (v := (.int .i64 x26)) rfl) ?_
        have g32 := (gd_some hd1).1; replace hd1 := (gd_some hd1).2
        refine wo_indexR (i := x26.toNat) rfl sl41 rfl (sl_s (h23.mono le28)) (idx_nonneg rfl g32.1) (okI_lt g32) fun v33 h34 => ?_
        refine wo_loadR rfl ty40 rfl h34 fun v35 h36 => ?_
        obtain rfl := vrep_Edge.1 h36
        refine wo_alloc rfl za40 fun b37 => ?_
        refine wo_v rfl (val_assign (v := (.int .i64 x26)) rfl) ?_
        refine wo_store (i := 0) (vs := [(.int .i64 ((ix (ix p0_.rows x7) x26).to)), (.int .i64 ((ix (ix p0_.rows x7) x26).out))]) sz40 rfl rfl rfl rfl rfl rfl (one_cons rfl (one_cons rfl one_nil)) ?_
        refine wo_nil ?_
        refine wg_seq ?_
        refine wg_region ?_
        refine wo_v rfl (val_move (v := yv) rfl) ?_
        refine wo_v rfl (val_move (v := (.int .i64 x7)) rfl) ?_
        refine wo_v rfl (val_move (v := (.int .i64 x26)) rfl) ?_
        refine wo_v rfl (val_buildL (ps := [(0, (.int .i64 x7)), (1, (.int .i64 x26))]) (v := (.agg #[(.int .i64 x7), (.int .i64 x26)])) rfl (fun w => by kernel_rfl)) ?_
        refine wo_v rfl (val_loadBA (i := 0) ag40 sz40 rfl rfl rfl rfl) ?_
        replace hd1 := bd_some hd1; obtain ⟨y39, c40, hd1⟩ := hd1
        refine wo_yieldS (vs := [(.agg #[(.int .i64 x7), (.int .i64 x26)]), (.agg #[(.int .i64 ((ix (ix p0_.rows x7) x26).to)), (.int .i64 ((ix (ix p0_.rows x7) x26).out))])]) (J := [box b37 [(.int .i64 ((ix (ix p0_.rows x7) x26).to)), (.int .i64 ((ix (ix p0_.rows x7) x26).out))] 40]) (Oc := OJ29) (A := A) rfl rfl rfl rfl (hy (((x7, x26) : (Int × Int)), (⟨(ix (ix p0_.rows x7) x26).to, (ix (ix p0_.rows x7) x26).out⟩ : Edge)) x25 y39.1 y39.2 _ _ [(.agg #[(.int .i64 x7), (.int .i64 x26)]), (.agg #[(.int .i64 ((ix (ix p0_.rows x7) x26).to)), (.int .i64 ((ix (ix p0_.rows x7) x26).out))])] (le9.trans le28) rfl hi30 c40) fun R41 OJ43 le42 hi44 => ?_
        refine wo_v rfl (val_not rfl) ?_
        refine wo_nil ?_
        refine wg_cond rfl (fun e45 => ?_) (fun e45 => ?_)
        · replace hd1 := sel_t e45 hd1; clear e45
          refine wg_ret ?_
          replace hd0 := on_rt hd1 hd0
          obtain rfl := Option.some.inj hd0
          refine body_endG (D := []) (J := [box b37 [(.int .i64 ((ix (ix p0_.rows x7) x26).to)), (.int .i64 ((ix (ix p0_.rows x7) x26).out))] 40]) (O' := OJ43) (rs := []) (vs := []) ((le9.trans le28).trans le42) (List.Perm.refl _) rfl trivial ?_
          exact hi44
        · replace hd1 := sel_f e45 hd1; clear e45
          refine wg_skip ?_
          refine wg_region ?_
          have g46 := (gd_some hd1).1; replace hd1 := (gd_some hd1).2
          refine wo_v rfl (val_add rfl rfl g46) ?_
          refine wo_v rfl (val_move (v := (.int .i64 (x26 + 1))) rfl) ?_
          refine wo_nil ?_
          exact ⟨(fun _ => rfl), le42, (by repeat (first | exact off_self | refine off_upd rfl ?_ | refine off_setl rfl ?_ | refine off_mask_sub rfl ?_)), (F24, y39.2, x26 + 1, OJ43), Nat.lt_succ_self _, ⟨rfl, trivial⟩, ⟨[box b37 [(.int .i64 ((ix (ix p0_.rows x7) x26).to)), (.int .i64 ((ix (ix p0_.rows x7) x26).out))] 40], (List.Perm.refl _)⟩, hd1, hi44, trivial⟩
      · replace hd1 := sel_f e31 hd1; clear e31
        refine wg_exit ?_
        exact ⟨(fun _ => rfl), le28, (by repeat (first | exact off_self | refine off_upd rfl ?_ | refine off_setl rfl ?_ | refine off_mask_sub rfl ?_)), (x25, OJ29), trivial, ⟨[], List.Perm.refl _⟩, (Option.some.inj hd1).symm, hi30, trivial⟩
    ·
      rintro ⟨o13, OJ17⟩ j50 D51 R15 hD52 le16 ⟨rfl, hi18, _⟩
      obtain rfl := hD52 rfl
      replace hd0 := on_go hd0
      refine wg_region ?_
      have g53 := (gd_some hd0).1; replace hd0 := (gd_some hd0).2
      refine wo_v rfl (val_add rfl rfl g53) ?_
      refine wo_v rfl (val_move (v := (.int .i64 (x7 + 1))) rfl) ?_
      refine wo_nil ?_
      exact ⟨(fun _ => rfl), le16, (by repeat (first | exact off_self | refine off_upd rfl ?_ | refine off_setl rfl ?_ | refine off_mask_sub rfl ?_)), (F5, o13, x7 + 1, OJ17), Nat.lt_succ_self _, ⟨rfl, trivial⟩, ⟨[], List.Perm.refl _⟩, hd0, hi18, trivial⟩
  · replace hd0 := sel_f e12 hd0; clear e12
    refine wg_exit ?_
    show bodyQ _ _ _ _ _ .ret _ [] _ _
    obtain rfl := Option.some.inj hd0
    refine body_endG (D := []) (J := []) (O' := OJ10) (rs := []) (vs := []) le9 (List.Perm.refl _) rfl trivial ?_
    exact hi11
theorem en61 : Enters Try.prog 61 := enters_of Try.func61 rfl (by kernel_rfl)
theorem za42 : ∀ w, ∃ z, (zeroValue 42).run Try.prog w = .ok z w ∧ z.cells = ([.int .i64 0, .int .i64 0] : List Value).toArray := fun w => ⟨(.agg #[(.int .i64 0), (.int .i64 0)]), by kernel_rfl, rfl⟩
theorem sz42 : ∀ w, (sizeOf 42).run Try.prog w = .ok 2 w := fun w => by kernel_rfl
theorem ag34 : ∀ w, (isAgg 34).run Try.prog w = .ok false w := fun w => by kernel_rfl
theorem ag42 : ∀ w, (isAgg 42).run Try.prog w = .ok true w := fun w => by kernel_rfl
theorem zo42 : ZeroOk Try.prog 42 kA2tInti64 (((0 : Int), (0 : Int)) : (Int × Int)) 16 := by
  obtain ⟨i, zv, hi, hz, hs, hb, hv⟩ := info_zero (P := Try.prog) (e := 42) (zv := (.agg #[(.int .i64 0), (.int .i64 0)])) (k := 2) (b := 16) (by kernel_rfl)
  exact ⟨i, zv, hi, hz, hs, hb, fun R => by subst hv; exact ⟨_, _, rfl, rfl, rfl⟩⟩
theorem sz34 : ∀ w, (sizeOf 34).run Try.prog w = .ok 1 w := fun w => by kernel_rfl
theorem ty42 : TyOk Try.prog 42 kA2tInti64 := by
  obtain ⟨i, hi, hs⟩ : ∃ i, Try.prog.info? 42 = some i ∧ i.size = 2 := info_size (by kernel_rfl)
  exact tyOk_of Try.underlying42 hi rfl hs
theorem sl34 : SlOk Try.prog 34 42 kA2tInti64 := ⟨Try.underlying34, ty42⟩
theorem c_slices_Clip__2_int {N : Nat} {R : RH} {s : (List (Int × Int))} {v_s : Value} (h_s : VRep (tSl false kA2tInti64) R v_s s) {r : (List (Int × Int))} (hd0 : slices_Clip__2_int N s = some r) : CallP Try.prog 56 #[v_s] R (fun v R' => VRep (tSl true kA2tInti64) R' v r) := by
  refine callP_of_wg (args := [v_s]) Try.func56 rfl rfl fun A => ?_
  rw [slices_Clip__2_int] at hd0
  refine wg_seq ?_
  refine wg_region ?_
  refine wo_v rfl (val_assign (v := (.slice none 0 0)) rfl) ?_
  refine wo_nil ?_
  refine wg_seq ?_
  refine wg_region ?_
  refine wo_v rfl (val_move (v := v_s) rfl) ?_
  refine wo_v rfl (val_move (v := v_s) rfl) ?_
  refine wo_v rfl (val_lenR rfl Try.underlying34 rfl (sl_s h_s)) ?_
  refine wo_v rfl (val_move (v := v_s) rfl) ?_
  refine wo_v rfl (val_lenR rfl Try.underlying34 rfl (sl_s h_s)) ?_
  have g4 := (gd_some hd0).1; replace hd0 := (gd_some hd0).2
  refine wo_sliceR (v := v_s) (lo := (0 : Int).toNat) (hi := (↑s.length : Int).toNat) (mx := (↑s.length : Int).toNat) rfl sl34 rfl (sl_s h_s) (.inl ⟨rfl, rfl⟩) (.inr ⟨_, congrArg some (idx_nonneg rfl (okS_0 g4))⟩) (.inr ⟨_, congrArg some (idx_nonneg rfl (okS_0 g4))⟩) (okS_1 g4) (okS_2 g4) (Nat.le_refl _) (Nat.le_trans (okS_2 g4) (capR (sl_s h_s))) (X' := (cut s 0 (↑s.length : Int))) rfl fun v1 h2 cap3 => ?_
  have h5 : VRep (tSl true kA2tInti64) R v1 (cut s 0 (↑s.length : Int)) := sl_t h2 (cap3.trans (cut_len g4).symm)
  refine wo_v rfl (val_assign (v := v1) rfl) ?_
  refine wo_nil ?_
  refine wg_ret ?_
  obtain rfl := Option.some.inj hd0
  refine body_end (D := []) (J := []) (rs := [.tmp 2]) (vs := [v1]) (RH.le.refl _) rfl rfl ⟨rfl, trivial⟩ ?_
  exact ⟨rfl, h5⟩
theorem en56 : Enters Try.prog 56 := enters_of Try.func56 rfl (by kernel_rfl)
theorem c_machines_undefined {N : Nat} {R : RH} {m : Mach} {v_m : Value} (h_m : VRep (kMach false false) R v_m m) {r : (List (Int × Int))} (hd0 : machines_undefined N m = some r) : CallP Try.prog 38 #[v_m] R (fun v R' => VRep (tSl true kA2tInti64) R' v r) := by
  refine callP_of_wg (args := [v_m]) Try.func38 rfl rfl fun A => ?_
  rw [machines_undefined] at hd0
  refine wg_seq ?_
  refine wg_region ?_
  refine wo_boxR (T := (kMach false false)) rfl rfl h_m fun v1 R3 le4 h2 => ?_
  refine wo_v rfl (val_assign (v := (.slice none 0 0)) rfl) ?_
  refine wo_nil ?_
  refine wg_seq ?_
  refine wg_region ?_
  refine wo_alloc rfl za34 fun b5 => ?_
  refine wo_nil ?_
  refine wg_seq ?_
  refine wg_seq ?_
  refine wg_region ?_
  refine wo_loadR rfl ty27 rfl h2 fun v7 h8 => ?_
  replace hd0 := bd_some hd0; obtain ⟨y9, c10, hd0⟩ := hd0
  refine wo_callP rfl en54 rfl (c_machines_edges h8 c10) fun v11 R13 le14 h12 => ?_
  obtain ⟨v15, rfl, h16⟩ := h12
  refine wo_nil ?_
  refine wg_block ?_
  refine wg_emp ?_
  replace hd0 := bd_some hd0; obtain ⟨o18, c19, hd0⟩ := hd0
  refine wg_iterS (Oc := [emp, box b5 [(.slice none 0 0)] 34]) (Or := A) _ (fun (s : List (Int × Int)) R O => ∃ (v24 : Value) (f25 : Frag), (∃ J, O.Perm (J ++ [box b5 [v24] 34, f25])) ∧ ORep kA2tInti64 R f25 v24 s ∧ True) (fun (s : List (Int × Int)) (c : Code) R O => False) _ _ rfl en61 (c_machines_edges_1 (N := N) h16) (List.Perm.refl _) (by decide) (by rintro _ _ _ rfl; rfl) (by rintro s R2 R3 O2 hle ⟨v24, f25, hJ, h26, _⟩; exact ⟨v24, f25, hJ, h26.mono hle, trivial⟩) (fun _ _ _ _ _ _ h => h) (fun _ _ _ _ _ h => h.elim) ⟨(.slice none 0 0), emp, ⟨[], (pk 1 rfl (pk 0 rfl (List.Perm.refl _)))⟩, (orep_emp (T := kA2tInti64)), trivial⟩ c19 ?_ ?_ ?_
  ·
    rintro y20 x21 b28 s29 lb30 R31 vs32 Oc33 le34 he35 ⟨v24, f25, ⟨_, hJ⟩, h26, _⟩ hB37 X38
    have hd1 := hB37; clear hB37
    try dsimp only at hd1
    refine wg_junk (perm_mid hJ) ?_
    obtain rfl := he35
    refine wg_seq ?_
    refine wg_region ?_
    refine wo_alloc rfl za42 fun b39 => ?_
    refine wo_store (i := 0) (vs := [(.int .i64 y20.1.1), (.int .i64 y20.1.2)]) sz42 rfl rfl rfl rfl rfl rfl (one_cons rfl (one_cons rfl one_nil)) ?_
    refine wo_nil ?_
    refine wg_region ?_
    refine wo_alloc rfl za40 fun b41 => ?_
    refine wo_store (i := 0) (vs := [(.int .i64 y20.2.to), (.int .i64 y20.2.out)]) sz40 rfl rfl rfl rfl rfl rfl (one_cons rfl (one_cons rfl one_nil)) ?_
    refine wo_nil ?_
    refine ⟨rfl, rfl, (RH.le.refl _), [box b41 [(.int .i64 y20.2.to), (.int .i64 y20.2.out)] 40, box b39 [(.int .i64 y20.1.1), (.int .i64 y20.1.2)] 42, box b5 [v24] 34, f25], List.Perm.refl _, fun X43 => ?_⟩
    refine wg_block ?_
    refine wg_seq ?_
    replace hd1 := bd_some hd1; obtain ⟨y44, c45, hd1⟩ := hd1
    refine wg_drawn 3 [] [phX (.agg #[(.int .i64 y20.2.to), (.int .i64 y20.2.out)]), phX (enc_Edge y44), phX (.bool (decide (y20.2.to = y44.to ∧ y20.2.out = y44.out)))] mixed (by kernel_rfl) (monoOk_of ⟨mono_x, mono_x, mono_x, trivial⟩) ⟨?_, ?_, ?_, trivial⟩ fun R46 le47 => ?_
    · intro l R0q hle ha hd
      have a5 : l 5 = (.pointer (some ⟨b41, 0, none⟩)) := ha 5 rfl
      exact gstep_plain rfl rfl rfl (ph_val (val_loadBA (i := 0) ag40 sz40 a5 rfl rfl rfl))
    · intro l R1q hle ha hd
      exact gstep_plain rfl rfl rfl (ph_callP en55 rfl (c_machines_none  c45) (fun _ _ h => h))
    · intro l R2q hle ha hd
      obtain ⟨d0, d1, _⟩ := hd
      have f10 : l 10 = (.agg #[(.int .i64 y20.2.to), (.int .i64 y20.2.out)]) := d0 rfl
      have f11 : l 11 = (enc_Edge y44) := d1 rfl
      exact gstep_plain rfl rfl rfl (ph_val (val_eql2 eq40 f10 f11))
    intro v48 h49
    intro v50 h51
    intro v52 h53
    obtain rfl := Eq.symm h49
    obtain rfl := Eq.symm h51
    obtain rfl := Eq.symm h53
    refine wo_nil ?_
    refine wg_cond rfl (fun e54 => ?_) (fun e54 => ?_)
    · replace hd1 := sel_t e54 hd1; clear e54
      refine wg_region ?_
      refine wo_v rfl (val_loadB (i := 2) ag34 rfl rfl rfl) ?_
      refine wo_v rfl (val_loadBA (i := 1) ag42 sz42 rfl rfl rfl rfl) ?_
      refine wo_lit (T := kA2tInti64) (X := ([((y20.1.1, y20.1.2) : (Int × Int))] : List (Int × Int))) (ps := [(0, (.agg #[(.int .i64 y20.1.1), (.int .i64 y20.1.2)]))]) (css := [[(.int .i64 y20.1.1), (.int .i64 y20.1.2)]]) rfl Try.underlying34 zo42 rfl rfl (lit_reps ⟨⟨_, _, rfl, rfl, rfl⟩, trivial⟩) rfl rfl (by decide) fun v55 f56 cap57 h58 => ?_
      refine wo_freeze (i := 0) rfl h58 fun R60 le61 h62 => ?_
      have h63 : VRep (tSl true kA2tInti64) R60 v55 ([((y20.1.1, y20.1.2) : (Int × Int))] : List (Int × Int)) := (sl_t h62 cap57)
      have g64 := (gd_some hd1).1; replace hd1 := (gd_some hd1).2
      refine wo_append (i := 3) (X := x21) (Y := ([((y20.1.1, y20.1.2) : (Int × Int))] : List (Int × Int))) rfl Try.underlying34 zo42 rfl rfl rfl (h26.mono (le47.trans le61)) (sl_s (Sub.v (B := (tSl false kA2tInti64)) (sub_sl Sub.refl (fun _ => rfl)) h63)) g64.1 g64.2 fun v65 f66 h67 => ?_
      refine wo_store (i := 2) (vs := [v65]) sz34 rfl rfl (orep_cells h67) rfl rfl rfl (one_cons (orep_one h67) one_nil) ?_
      refine wo_nil ?_
      obtain ⟨rfl, rfl⟩ := Prod.mk.inj (Option.some.inj hd1)
      exact ⟨rfl, (le47.trans le61), [box b41 [(.int .i64 y20.2.to), (.int .i64 y20.2.out)] 40, box b39 [(.int .i64 y20.1.1), (.int .i64 y20.1.2)] 42, box b5 [v65] 34, f66], List.Perm.refl _, rfl, ⟨v65, f66, ⟨[box b41 [(.int .i64 y20.2.to), (.int .i64 y20.2.out)] 40, box b39 [(.int .i64 y20.1.1), (.int .i64 y20.1.2)] 42], (List.Perm.refl _)⟩, h67, trivial⟩⟩
    · replace hd1 := sel_f e54 hd1; clear e54
      refine wg_skip ?_
      obtain ⟨rfl, rfl⟩ := Prod.mk.inj (Option.some.inj hd1)
      exact ⟨rfl, le47, [box b41 [(.int .i64 y20.2.to), (.int .i64 y20.2.out)] 40, box b39 [(.int .i64 y20.1.1), (.int .i64 y20.1.2)] 42, box b5 [v24] 34, f25], List.Perm.refl _, rfl, ⟨v24, f25, ⟨[box b41 [(.int .i64 y20.2.to), (.int .i64 y20.2.out)] 40, box b39 [(.int .i64 y20.1.1), (.int .i64 y20.1.2)] 42], (List.Perm.refl _)⟩, (h26.mono le47), trivial⟩⟩
  ·
    rintro D74 R68 Oc75 le69 ⟨v70, f71, ⟨_, hJ⟩, h72, _⟩
    refine ⟨_, _, hJ, ?_⟩
    refine wg_seq ?_
    refine wg_region ?_
    refine wo_v rfl (val_loadB (i := 0) ag34 rfl rfl rfl) ?_
    refine wo_freeze (i := 1) rfl h72 fun R76 le77 h78 => ?_
    have h79 : VRep (tSl false kA2tInti64) R76 v70 o18 := (sl_f h78)
    replace hd0 := bd_some hd0; obtain ⟨y80, c81, hd0⟩ := hd0
    refine wo_callP rfl en56 rfl (c_slices_Clip__2_int h79 c81) fun v82 R84 le85 h83 => ?_
    refine wo_v rfl (val_assign (v := v82) rfl) ?_
    refine wo_nil ?_
    refine wg_ret ?_
    obtain rfl := Option.some.inj hd0
    refine body_end (D := []) (J := [box b5 [v70] 34]) (rs := [.tmp 2]) (vs := [v82]) ((((le4.trans le14).trans le69).trans le77).trans le85) rfl rfl ⟨rfl, trivial⟩ ?_
    exact ⟨rfl, h83⟩
  ·
    exact fun _ _ _ _ _ h => h.elim
theorem en38 : Enters Try.prog 38 := enters_of Try.func38 rfl (by kernel_rfl)
theorem c_machines_Complete {N : Nat} {R : RH} {m : Mach} {v_m : Value} (h_m : VRep (kMach false false) R v_m m) {r : Bool × Int} (hd0 : machines_Complete N m = some r) : CallP Try.prog 11 #[v_m] R (fun v R' => v = .tuple #[(.bool r.1), (.int .i64 r.2)]) := by
  refine callP_of_wg (args := [v_m]) Try.func11 rfl rfl fun A => ?_
  rw [machines_Complete] at hd0
  refine wg_seq ?_
  refine wg_region ?_
  refine wo_boxR (T := (kMach false false)) rfl rfl h_m fun v1 R3 le4 h2 => ?_
  refine wo_v rfl (val_assign (v := (.bool false)) rfl) ?_
  refine wo_v rfl (val_assign (v := (.int .i64 0)) rfl) ?_
  refine wo_nil ?_
  refine wg_seq ?_
  refine wg_seq ?_
  refine wg_region ?_
  refine wo_loadR rfl ty27 rfl h2 fun v5 h6 => ?_
  replace hd0 := bd_some hd0; obtain ⟨y7, c8, hd0⟩ := hd0
  refine wo_callP rfl en31 rfl (c_machines_Check h6 c8) fun v9 R11 le12 h10 => ?_
  obtain rfl := h10
  refine wo_v rfl (val_assign (v := (.int .i64 y7)) rfl) ?_
  refine wo_nil ?_
  refine wg_seq ?_
  refine wg_region ?_
  refine wo_v rfl (val_move (v := (.int .i64 y7)) rfl) ?_
  refine wo_v rfl (val_neq rfl rfl) ?_
  refine wo_nil ?_
  refine wg_cond rfl (fun e13 => ?_) (fun e13 => ?_)
  · replace hd0 := sel_t e13 hd0; clear e13
    refine wg_seq ?_
    refine wg_region ?_
    refine wo_v rfl (val_move (v := (.int .i64 y7)) rfl) ?_
    refine wo_v rfl (val_assign (v := (.bool false)) rfl) ?_
    refine wo_v rfl (val_assign (v := (.int .i64 y7)) rfl) ?_
    refine wo_nil ?_
    refine wg_ret ?_
    obtain rfl := Option.some.inj hd0
    refine body_end (D := []) (J := []) (rs := [.tmp 2, .tmp 3]) (vs := [(.bool false), (.int .i64 y7)]) (le4.trans le12) rfl rfl ⟨rfl, rfl, trivial⟩ ?_
    exact ⟨rfl, rfl⟩
  · replace hd0 := sel_f e13 hd0; clear e13
    refine wg_skip ?_
    refine wg_seq ?_
    refine wg_region ?_
    refine wo_loadR rfl ty27 rfl (h2.mono le12) fun v14 h15 => ?_
    replace hd0 := bd_some hd0; obtain ⟨y16, c17, hd0⟩ := hd0
    refine wo_callP rfl en38 rfl (c_machines_undefined h15 c17) fun v18 R20 le21 h19 => ?_
    refine wo_v rfl (val_lenR rfl Try.underlying34 rfl (sl_s h19)) ?_
    refine wo_v rfl (val_eql rfl rfl) ?_
    refine wo_v rfl (val_assign (v := (.bool (decide ((↑y16.length : Int) = 0)))) rfl) ?_
    refine wo_v rfl (val_assign (v := (.int .i64 0)) rfl) ?_
    refine wo_nil ?_
    refine wg_ret ?_
    obtain rfl := Option.some.inj hd0
    refine body_end (D := []) (J := []) (rs := [.tmp 2, .tmp 3]) (vs := [(.bool (decide ((↑y16.length : Int) = 0))), (.int .i64 0)]) ((le4.trans le12).trans le21) rfl rfl ⟨rfl, rfl, trivial⟩ ?_
    exact ⟨rfl, rfl⟩
theorem en11 : Enters Try.prog 11 := enters_of Try.func11 rfl (by kernel_rfl)
theorem zo4 : ZeroOk Try.prog 4 tBool false 1 := by
  obtain ⟨i, zv, hi, hz, hs, hb, hv⟩ := info_zero (P := Try.prog) (e := 4) (zv := (.bool false)) (k := 1) (b := 1) (by kernel_rfl)
  exact ⟨i, zv, hi, hz, hs, hb, fun R => by subst hv; exact rfl⟩
theorem za77 : ∀ w, ∃ z, (zeroValue 77).run Try.prog w = .ok z w ∧ z.cells = ([.slice none 0 0] : List Value).toArray := fun w => ⟨(.slice none 0 0), by kernel_rfl, rfl⟩
theorem sz77 : ∀ w, (sizeOf 77).run Try.prog w = .ok 1 w := fun w => by kernel_rfl
theorem za78 : ∀ w, ∃ z, (zeroValue 78).run Try.prog w = .ok z w ∧ z.cells = ([.nilFunc] : List Value).toArray := fun w => ⟨.nilFunc, by kernel_rfl, rfl⟩
theorem sz78 : ∀ w, (sizeOf 78).run Try.prog w = .ok 1 w := fun w => by kernel_rfl
theorem ag78 : ∀ w, (isAgg 78).run Try.prog w = .ok false w := fun w => by kernel_rfl
theorem ag77 : ∀ w, (isAgg 77).run Try.prog w = .ok false w := fun w => by kernel_rfl
theorem sl77 : SlOk Try.prog 77 4 tBool := ⟨Try.underlying77, ty4⟩
theorem en39 : Enters Try.prog 39 := enters_of Try.func39 rfl (by kernel_rfl)
theorem c_machines_Connected_1_rec {N : Nat} (F : Nat) : ∀ {R : RH} {s : Int} {b_p0_ : Nat} {p0_ : List Bool} {v_p0_ : Value} {f_p0_ : Frag} (h_p0_ : ORep tBool R f_p0_ v_p0_ p0_) {p1_ : Mach} {v_p1_ : Value} (h_p1_ : PRep (kMach false false) R v_p1_ p1_) {b_p2_ : Nat} {r : List Bool} (hd0 : machines_Connected_1 N F s p0_ p1_ = some r), CallG Try.prog 39 #[(.int .i64 s), (.pointer (some ⟨b_p0_, 0, none⟩)), v_p1_, (.pointer (some ⟨b_p2_, 0, none⟩))] R [box b_p0_ [v_p0_] 77, f_p0_, box b_p2_ [.func (.func 39) #[] #[(.pointer (some ⟨b_p0_, 0, none⟩)), v_p1_, (.pointer (some ⟨b_p2_, 0, none⟩))]] 78] (fun v R' O' => ∃ w_p0_ g_p0_, v = .tuple #[] ∧ O' = [box b_p0_ [w_p0_] 77, g_p0_, box b_p2_ [.func (.func 39) #[] #[(.pointer (some ⟨b_p0_, 0, none⟩)), v_p1_, (.pointer (some ⟨b_p2_, 0, none⟩))]] 78] ∧ ORep tBool R' g_p0_ w_p0_ r) := by
  induction F with
  | zero => intros; rename_i hd0; exact none_elim hd0
  | succ F ih =>
    intro R s b_p0_ p0_ v_p0_ f_p0_ h_p0_ p1_ v_p1_ h_p1_ b_p2_ r hd0
    refine callG_of_wg (args := [(.int .i64 s), (.pointer (some ⟨b_p0_, 0, none⟩)), v_p1_, (.pointer (some ⟨b_p2_, 0, none⟩))]) Try.func39 rfl rfl fun A => ?_
    rw [machines_Connected_1] at hd0
    refine wg_seq ?_
    refine wg_seq ?_
    have g1 := (gd_some hd0).1; replace hd0 := (gd_some hd0).2
    refine wg_guarded 8 [] [phX (.int .i64 s), phX (.bool (decide (s = (-1)))), phX (.bool (decide (s = (-1)))), phG (true && ((decide (s = (-1))) == false)) (phX v_p0_), phG (true && ((decide (s = (-1))) == false)) (phX (.int .i64 s)), phG (true && ((decide (s = (-1))) == false)) ((fun u _ => OPtr tBool v_p0_ p0_ u s.toNat)), phG (true && ((decide (s = (-1))) == false)) (phX (.bool (ix p0_ s))), phX (.bool ((decide (s = (-1))) || (ix p0_ s)))] (by kernel_rfl) (by kernel_rfl) (monoOk_of ⟨mono_x, mono_x, mono_x, (mono_g mono_x), (mono_g mono_x), (mono_g (fun _ _ _ _ h => h)), (mono_g mono_x), mono_x, trivial⟩) ⟨?_, ?_, ?_, ?_, ?_, ?_, ?_, ?_, trivial⟩ fun R2 le3 => ?_
    · intro l R0q hle ha hd
      have a0 : l 0 = (.int .i64 s) := ha 0 rfl
      exact gstep_plain rfl rfl rfl (ph_val (val_move a0))
    · intro l R1q hle ha hd
      obtain ⟨d0, _⟩ := hd
      have f7 : l 7 = (.int .i64 s) := d0 rfl
      exact gstep_plain rfl rfl rfl (ph_val (val_eql f7 rfl))
    · intro l R2q hle ha hd
      obtain ⟨d0, _⟩ := hd
      have f8 : l 8 = (.bool (decide (s = (-1)))) := d0 rfl
      exact gstep_plain rfl rfl rfl (ph_val (val_move f8))
    · intro l R3q hle ha hd
      obtain ⟨d0, _⟩ := hd
      have a1 : l 1 = (.pointer (some ⟨b_p0_, 0, none⟩)) := ha 1 rfl
      exact gstep_guard (Gj := true) (Bj := decide (s = (-1))) rfl rfl rfl (gtrue (d0 rfl)) rfl (fun hG hB => ph_val (val_loadB (i := 0) ag77 a1 rfl rfl))
    · intro l R4q hle ha hd
      obtain ⟨d0, _⟩ := hd
      have a0 : l 0 = (.int .i64 s) := ha 0 rfl
      exact gstep_guard (Gj := true) (Bj := decide (s = (-1))) rfl rfl rfl (gtrue (d0 rfl)) rfl (fun hG hB => ph_val (val_move a0))
    · intro l R5q hle ha hd
      obtain ⟨d0, d1, d2, _⟩ := hd
      have f10g : phG (true && ((decide (s = (-1))) == false)) (phX v_p0_) (l 10) R5q := d0 rfl
      have f11g : phG (true && ((decide (s = (-1))) == false)) (phX (.int .i64 s)) (l 11) R5q := d1 rfl
      exact gstep_guard (Gj := true) (Bj := decide (s = (-1))) rfl rfl rfl (gtrue (d2 rfl)) rfl (fun hG hB => ph_indexO (i := s.toNat) sl77 (show l 10 = v_p0_ from f10g.1 (gandT rfl hB)) (h_p0_.mono hle) (idx_nonneg (show l 11 = (.int .i64 s) from f11g.1 (gandT rfl hB)) (g1 (gandT hG hB)).1) (okI_lt (g1 (gandT hG hB))))
    · intro l R6q hle ha hd
      obtain ⟨d0, d1, _⟩ := hd
      have f12g : phG (true && ((decide (s = (-1))) == false)) ((fun u _ => OPtr tBool v_p0_ p0_ u s.toNat)) (l 12) R6q := d0 rfl
      exact gstep_guard (Gj := true) (Bj := decide (s = (-1))) rfl rfl rfl (gtrue (d1 rfl)) rfl (fun hG hB => ph_exact (ph_loadO (i := s.toNat) (j := 1) ty4 (h_p0_.mono hle) rfl rfl (f12g.1 (gandT rfl hB)) (okI_lt (g1 (gandT hG hB)))) (fun _ _ h => vrep_bool.1 h))
    · intro l R7q hle ha hd
      obtain ⟨d0, d1, _⟩ := hd
      have f9 : l 9 = (.bool (decide (s = (-1)))) := d0 rfl
      have f13g : phG (true && ((decide (s = (-1))) == false)) (phX (.bool (ix p0_ s))) (l 13) R7q := d1 rfl
      exact gstep_plain rfl rfl rfl (ph_val (val_or f9 rfl (fun hb => (show l 13 = (.bool (ix p0_ s)) from f13g.1 (gandT rfl hb)))))
    intro v4 h5
    intro v6 h7
    intro v8 h9
    intro v10 h11
    intro v12 h13
    intro v14 h15
    intro v16 h17
    intro v18 h19
    obtain rfl := Eq.symm h5
    obtain rfl := Eq.symm h7
    obtain rfl := Eq.symm h9
    obtain rfl := Eq.symm h19
    refine wo_nil ?_
    refine wg_cond rfl (fun e20 => ?_) (fun e20 => ?_)
    · replace hd0 := sel_t e20 hd0; clear e20
      refine wg_ret ?_
      obtain rfl := Option.some.inj hd0
      refine body_endG (D := []) (J := []) (O' := [box b_p0_ [v_p0_] 77, f_p0_, box b_p2_ [(.func (.func 39) #[] #[(.pointer (some ⟨b_p0_, 0, none⟩)), v_p1_, (.pointer (some ⟨b_p2_, 0, none⟩))])] 78]) (rs := []) (vs := []) le3 ((pk 0 rfl (pk 0 rfl (pk 0 rfl (List.Perm.refl _))))) rfl trivial ?_
      exact ⟨v_p0_, f_p0_, rfl, rfl, (h_p0_.mono le3)⟩
    · replace hd0 := sel_f e20 hd0; clear e20
      refine wg_skip ?_
      refine wg_seq ?_
      refine wg_region ?_
      refine wo_v rfl (val_loadB (i := 0) ag77 rfl rfl rfl) ?_
      refine wo_v rfl (val_move (v := (.int .i64 s)) rfl) ?_
      have g21 := (gd_some hd0).1; replace hd0 := (gd_some hd0).2
      refine wo_indexO (i := s.toNat) rfl sl77 rfl (h_p0_.mono le3) (idx_nonneg rfl g21.1) (okI_lt g21) fun v22 h23 => ?_
      refine wo_storeO (i := s.toNat) (j := 1) ty4 (h_p0_.mono le3) rfl rfl h23 (okI_lt g21) rfl (vrep_bool.2 rfl) fun f24 h25 => ?_
      refine wo_nil ?_
      refine wg_seq ?_
      refine wg_region ?_
      refine wo_fieldR rfl fd27_2 pt_Mach2 rfl (h_p1_.mono le3) fun v26 h27 => ?_
      refine wo_loadR rfl ty25 rfl h27 fun v28 h29 => ?_
      refine wo_v rfl (val_move (v := (.int .i64 s)) rfl) ?_
      have g30 := (gd_some hd0).1; replace hd0 := (gd_some hd0).2
      refine wo_indexR (i := s.toNat) rfl sl25 rfl (sl_s h29) (idx_nonneg rfl g30.1) (okI_lt g30) fun v31 h32 => ?_
      refine wo_loadR rfl ty41 rfl h32 fun v33 h34 => ?_
      refine wo_v rfl (val_lenR rfl Try.underlying41 rfl (sl_s h34)) ?_
      refine wo_v rfl (val_move (v := (.int .i64 0)) rfl) ?_
      refine wo_nil ?_
      refine wg_block ?_
      refine wg_loopS (γ := Nat × Int × (List Bool) × Value × Frag) true [25, 26, 27, 6, 28, 29, 30, 31, 32, 24] (fun g => [(24, (.int .i64 g.2.1))]) (fun g => [box b_p2_ [(.func (.func 39) #[] #[(.pointer (some ⟨b_p0_, 0, none⟩)), v_p1_, (.pointer (some ⟨b_p2_, 0, none⟩))])] 78, box b_p0_ [g.2.2.2.1] 77, g.2.2.2.2] ++ A) (fun g R => machines_Connected_1_L1 N (machines_Connected_1 N F) s p1_ g.1 g.2.1 g.2.2.1 = some r ∧ ORep tBool R g.2.2.2.2 g.2.2.2.1 g.2.2.1 ∧ True) (fun g => g.1) (N, 0, (up p0_ s true), v_p0_, f24) ⟨rfl, trivial⟩ ⟨[], (pk 2 rfl (pk 0 rfl (pk 0 rfl (List.Perm.refl _))))⟩ ⟨hd0, h25, trivial⟩ (fun _ => rfl) ?_
      clear hd0
      rintro ⟨F35, x36, x37, v40, f41⟩ j62 D63 R38 hD64 le39 ⟨hd0, h42, _⟩
      obtain rfl := hD64 rfl
      rcases F35 with _ | F35
      · exact none_elim hd0
      replace hd0 : machines_Connected_1_L1 N (machines_Connected_1 N F) s p1_ (F35 + 1) x36 x37 = some r := hd0; rw [machines_Connected_1_L1] at hd0
      refine wg_seq ?_
      refine wg_region ?_
      refine wo_v rfl (val_lss rfl rfl) ?_
      refine wo_nil ?_
      refine wg_seq ?_
      refine wg_cond rfl (fun e43 => ?_) (fun e43 => ?_)
      · replace hd0 := sel_t e43 hd0; clear e43
        refine wg_skip ?_
        refine wg_seq ?_
        refine wg_block ?_
        refine wg_seq ?_
        refine wg_region ?_
        have g44 := (gd_some hd0).1; replace hd0 := (gd_some hd0).2
        refine wo_indexR (i := x36.toNat) rfl sl41 rfl (sl_s (h34.mono le39)) (idx_nonneg rfl g44.1) (okI_lt g44) fun v45 h46 => ?_
        refine wo_loadR rfl ty40 rfl h46 fun v47 h48 => ?_
        obtain rfl := vrep_Edge.1 h48
        refine wo_alloc rfl za40 fun b49 => ?_
        refine wo_store (i := 0) (vs := [(.int .i64 ((ix (ix p1_.rows s) x36).to)), (.int .i64 ((ix (ix p1_.rows s) x36).out))]) sz40 rfl rfl rfl rfl rfl rfl (one_cons rfl (one_cons rfl one_nil)) ?_
        refine wo_nil ?_
        refine wg_region ?_
        refine wo_v rfl (val_loadB (i := 1) ag78 rfl rfl rfl) ?_
        refine wo_v rfl (val_fieldB fd40_0 rfl) ?_
        refine wo_v rfl (val_loadB (i := 0) ag3 rfl rfl rfl) ?_
        replace hd0 := bd_some hd0; obtain ⟨y51, c52, hd0⟩ := hd0
        refine wo_callO (Oc := [box b_p0_ [v40] 77, f41, box b_p2_ [(.func (.func 39) #[] #[(.pointer (some ⟨b_p0_, 0, none⟩)), v_p1_, (.pointer (some ⟨b_p2_, 0, none⟩))])] 78]) (Or := [box b49 [(.int .i64 ((ix (ix p1_.rows s) x36).to)), (.int .i64 ((ix (ix p1_.rows s) x36).out))] 40] ++ A) (cs := [(.pointer (some ⟨b_p0_, 0, none⟩)), v_p1_, (.pointer (some ⟨b_p2_, 0, none⟩))]) (vs := [(.int .i64 ((ix (ix p1_.rows s) x36).to))]) rfl en39 rfl rfl ((pk 2 rfl (pk 2 rfl (pk 1 rfl (pk 0 rfl (List.Perm.refl _)))))) (ih h42 (h_p1_.mono (le3.trans le39)) c52) fun v53 R56 Oc55 le57 h54 => ?_
        obtain ⟨v58, f59, rfl, rfl, h60⟩ := h54
        refine wo_nil ?_
        refine wg_region ?_
        have g61 := (gd_some hd0).1; replace hd0 := (gd_some hd0).2
        refine wo_v rfl (val_add rfl rfl g61) ?_
        refine wo_v rfl (val_move (v := (.int .i64 (x36 + 1))) rfl) ?_
        refine wo_nil ?_
        exact ⟨(fun _ => rfl), le57, (by repeat (first | exact off_self | refine off_upd rfl ?_ | refine off_setl rfl ?_ | refine off_mask_sub rfl ?_)), (F35, x36 + 1, y51, v58, f59), Nat.lt_succ_self _, ⟨rfl, trivial⟩, ⟨[box b49 [(.int .i64 ((ix (ix p1_.rows s) x36).to)), (.int .i64 ((ix (ix p1_.rows s) x36).out))] 40], (pk 3 rfl (pk 2 rfl (pk 0 rfl (pk 0 rfl (List.Perm.refl _)))))⟩, hd0, h60, trivial⟩
      · replace hd0 := sel_f e43 hd0; clear e43
        refine wg_exit ?_
        show bodyQ _ _ _ _ _ .ret _ [] _ _
        obtain rfl := Option.some.inj hd0
        refine body_endG (D := []) (J := []) (O' := [box b_p0_ [v40] 77, f41, box b_p2_ [(.func (.func 39) #[] #[(.pointer (some ⟨b_p0_, 0, none⟩)), v_p1_, (.pointer (some ⟨b_p2_, 0, none⟩))])] 78]) (rs := []) (vs := []) (le3.trans le39) ((pk 1 rfl (pk 1 rfl (pk 0 rfl (List.Perm.refl _))))) rfl trivial ?_
        exact ⟨v40, f41, rfl, rfl, h42⟩
theorem c_machines_Connected_1 {N : Nat} {R : RH} {s : Int} {b_p0_ : Nat} {p0_ : List Bool} {v_p0_ : Value} {f_p0_ : Frag} (h_p0_ : ORep tBool R f_p0_ v_p0_ p0_) {p1_ : Mach} {v_p1_ : Value} (h_p1_ : PRep (kMach false false) R v_p1_ p1_) {b_p2_ : Nat} {r : List Bool} (hd0 : machines_Connected_1 N N s p0_ p1_ = some r) : CallG Try.prog 39 #[(.int .i64 s), (.pointer (some ⟨b_p0_, 0, none⟩)), v_p1_, (.pointer (some ⟨b_p2_, 0, none⟩))] R [box b_p0_ [v_p0_] 77, f_p0_, box b_p2_ [.func (.func 39) #[] #[(.pointer (some ⟨b_p0_, 0, none⟩)), v_p1_, (.pointer (some ⟨b_p2_, 0, none⟩))]] 78] (fun v R' O' => ∃ w_p0_ g_p0_, v = .tuple #[] ∧ O' = [box b_p0_ [w_p0_] 77, g_p0_, box b_p2_ [.func (.func 39) #[] #[(.pointer (some ⟨b_p0_, 0, none⟩)), v_p1_, (.pointer (some ⟨b_p2_, 0, none⟩))]] 78] ∧ ORep tBool R' g_p0_ w_p0_ r) := c_machines_Connected_1_rec N h_p0_ h_p1_ hd0
end GV
end Go.Proofs.Ytohjnbajgbdhhaa
