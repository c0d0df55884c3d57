/- The walks of the functions; printed. -/
import Derived.Test.YtncblcdhmcmkmaaShWe
import Derived.Test.YtncblcdhmcmkmaaShXd
import Derived.Test.YtncblcdhmcmkmaaShXf
import Derived.Test.YtncblcdhmcmkmaaRows
namespace Go.Proofs.Ytncblcdhmcmkmaa
namespace GV
open Go.IntWalk
set_option linter.unusedVariables false
set_option linter.unusedSimpArgs false
set_option maxRecDepth 100000
set_option maxHeartbeats 20000000
theorem ty77 {b0 b1 : Bool} : TyOk Try.prog 77 (kSgauntletlaw06_C b0 b1) := by
  obtain ⟨i, hi, hs⟩ : ∃ i, Try.prog.info? 77 = some i ∧ i.size = 5 := info_size (by kernel_rfl)
  exact tyOk_of Try.underlying77 hi rfl hs
theorem fd77_0 : FieldOk Try.prog 77 0 0 := by
  obtain ⟨i, hi, hs⟩ : ∃ i, Try.prog.info? 5 = some i ∧ i.size = 1 := info_size (by kernel_rfl)
  exact fieldOk_of Try.underlying77 rfl rfl hi (by rw [hs]; rfl)
theorem fd77_1 : FieldOk Try.prog 77 1 1 := by
  obtain ⟨i, hi, hs⟩ : ∃ i, Try.prog.info? 5 = some i ∧ i.size = 1 := info_size (by kernel_rfl)
  exact fieldOk_of Try.underlying77 rfl rfl hi (by rw [hs]; rfl)
theorem fd77_2 : FieldOk Try.prog 77 2 2 := by
  obtain ⟨i, hi, hs⟩ : ∃ i, Try.prog.info? 5 = some i ∧ i.size = 1 := info_size (by kernel_rfl)
  exact fieldOk_of Try.underlying77 rfl rfl hi (by rw [hs]; rfl)
theorem fd77_4 : FieldOk Try.prog 77 4 4 := by
  obtain ⟨i, hi, hs⟩ : ∃ i, Try.prog.info? 22 = some i ∧ i.size = 1 := info_size (by kernel_rfl)
  exact fieldOk_of Try.underlying77 rfl rfl hi (by rw [hs]; rfl)
theorem c_gauntletlaw06_number {N : Nat} {R : RH} {l_ : (List Int)} {v_l_ : Value} (h_l_ : VRep (tSl false (tInt .u16)) R v_l_ l_) {k : Int} {r : Int} (hd0 : gauntletlaw06_number N l_ k = some r) : CallP Try.prog 53 #[v_l_, (.int .i64 k)] R (fun v R' => v = (.int .i64 r)) := by
  refine callP_of_wg (args := [v_l_, (.int .i64 k)]) Try.func53 rfl rfl fun A => ?_
  rw [gauntletlaw06_number] at hd0
  refine wg_seq ?_
  refine wg_region ?_
  refine wo_v rfl (val_assign (v := (.int .i64 0)) rfl) ?_
  refine wo_nil ?_
  refine wg_seq ?_
  refine wg_seq ?_
  refine wg_region ?_
  refine wo_v rfl (val_move (v := (.int .i64 k)) rfl) ?_
  refine wo_v rfl (val_move (v := v_l_) rfl) ?_
  refine wo_v rfl (val_lenR rfl Try.underlying22 rfl (sl_s h_l_)) ?_
  refine wo_v rfl (val_lss rfl rfl) ?_
  refine wo_nil ?_
  refine wg_cond rfl (fun e1 => ?_) (fun e1 => ?_)
  · replace hd0 := sel_t e1 hd0; clear e1
    refine wg_seq ?_
    refine wg_region ?_
    refine wo_v rfl (val_move (v := v_l_) rfl) ?_
    refine wo_v rfl (val_move (v := (.int .i64 k)) rfl) ?_
    have g2 := (gd_some hd0).1; replace hd0 := (gd_some hd0).2
    refine wo_indexR (i := k.toNat) rfl sl22 rfl (sl_s h_l_) (idx_nonneg rfl g2.1) (okI_lt g2) fun v3 h4 => ?_
    refine wo_loadR rfl ty80 rfl h4 fun v5 h6 => ?_
    obtain rfl := vrep_int.1 h6
    have g7 := (gd_some hd0).1; replace hd0 := (gd_some hd0).2
    refine wo_v rfl (val_conv64 Try.underlying80 Try.underlying3 rfl g7) ?_
    refine wo_v rfl (val_assign (v := (.int .i64 (ix l_ k))) rfl) ?_
    refine wo_nil ?_
    refine wg_ret ?_
    obtain rfl := Option.some.inj hd0
    refine body_end (D := []) (J := []) (rs := [.tmp 4]) (vs := [(.int .i64 (ix l_ k))]) (RH.le.refl _) rfl rfl ⟨rfl, trivial⟩ ?_
    exact ⟨rfl, rfl⟩
  · replace hd0 := sel_f e1 hd0; clear e1
    refine wg_skip ?_
    refine wg_seq ?_
    refine wg_region ?_
    refine wo_v rfl (val_assign (v := (.int .i64 0)) rfl) ?_
    refine wo_nil ?_
    refine wg_ret ?_
    obtain rfl := Option.some.inj hd0
    refine body_end (D := []) (J := []) (rs := [.tmp 4]) (vs := [(.int .i64 0)]) (RH.le.refl _) rfl rfl ⟨rfl, trivial⟩ ?_
    exact ⟨rfl, rfl⟩
theorem en53 : Enters Try.prog 53 := enters_of Try.func53 rfl (by kernel_rfl)
theorem fd77_3 : FieldOk Try.prog 77 3 3 := by
  obtain ⟨i, hi, hs⟩ : ∃ i, Try.prog.info? 52 = some i ∧ i.size = 1 := info_size (by kernel_rfl)
  exact fieldOk_of Try.underlying77 rfl rfl hi (by rw [hs]; rfl)
theorem ps_Edge0 : PartSet kEdge 0 (tInt .i64) (fun (x : Edge) (y : Int) => (⟨y, x.out⟩ : Edge)) := ps_as ps_fst (fun _ _ => rfl)
theorem c_gauntletlaw06_C_Of {N : Nat} {R : RH} {x : Sgauntletlaw06_C} {v_x : Value} (h_x : VRep (kSgauntletlaw06_C false false) R v_x x) {r : Mach} (hd0 : gauntletlaw06_C_Of N x = some r) : CallP Try.prog 34 #[v_x] R (fun v R' => VRep (kMach false false) R' v r) := by
  refine callP_of_wg (args := [v_x]) Try.func34 rfl rfl fun A => ?_
  rw [gauntletlaw06_C_Of] at hd0
  refine wg_seq ?_
  refine wg_region ?_
  refine wo_boxR (T := (kSgauntletlaw06_C false false)) rfl rfl h_x fun v1 R3 le4 h2 => ?_
  refine wo_alloc rfl za27 fun b5 => ?_
  refine wo_nil ?_
  refine wg_seq ?_
  refine wg_region ?_
  refine wo_fieldR rfl fd77_0 pt_Sgauntletlaw06_C0 rfl h2 fun v7 h8 => ?_
  refine wo_loadR rfl ty5 rfl h8 fun v9 h10 => ?_
  obtain rfl := vrep_int.1 h10
  have g11 := (gd_some hd0).1; replace hd0 := (gd_some hd0).2
  refine wo_v rfl (val_rem0 rfl rfl g11) ?_
  have g12 := (gd_some hd0).1; replace hd0 := (gd_some hd0).2
  refine wo_v rfl (val_conv64 Try.underlying5 Try.underlying3 rfl g12) ?_
  have g13 := (gd_some hd0).1; replace hd0 := (gd_some hd0).2
  refine wo_v rfl (val_add rfl rfl g13) ?_
  refine wo_v rfl (val_assign (v := (.int .i64 ((1 : Int) + (x.f_States % 6)))) rfl) ?_
  refine wo_nil ?_
  refine wg_seq ?_
  refine wg_region ?_
  refine wo_fieldR rfl fd77_1 pt_Sgauntletlaw06_C1 rfl h2 fun v14 h15 => ?_
  refine wo_loadR rfl ty5 rfl h15 fun v16 h17 => ?_
  obtain rfl := vrep_int.1 h17
  have g18 := (gd_some hd0).1; replace hd0 := (gd_some hd0).2
  refine wo_v rfl (val_rem0 rfl rfl g18) ?_
  have g19 := (gd_some hd0).1; replace hd0 := (gd_some hd0).2
  refine wo_v rfl (val_conv64 Try.underlying5 Try.underlying3 rfl g19) ?_
  have g20 := (gd_some hd0).1; replace hd0 := (gd_some hd0).2
  refine wo_v rfl (val_add rfl rfl g20) ?_
  refine wo_fieldR rfl fd77_2 pt_Sgauntletlaw06_C2 rfl h2 fun v21 h22 => ?_
  refine wo_loadR rfl ty5 rfl h22 fun v23 h24 => ?_
  obtain rfl := vrep_int.1 h24
  have g25 := (gd_some hd0).1; replace hd0 := (gd_some hd0).2
  refine wo_v rfl (val_rem0 rfl rfl g25) ?_
  have g26 := (gd_some hd0).1; replace hd0 := (gd_some hd0).2
  refine wo_v rfl (val_conv64 Try.underlying5 Try.underlying3 rfl g26) ?_
  have g27 := (gd_some hd0).1; replace hd0 := (gd_some hd0).2
  refine wo_v rfl (val_add rfl rfl g27) ?_
  refine wo_v rfl (val_buildL (ps := [(0, (.int .i64 ((1 : Int) + (x.f_Inputs % 3)))), (1, (.int .i64 ((1 : Int) + (x.f_Outputs % 3))))]) (v := (.agg #[(.int .i64 ((1 : Int) + (x.f_Inputs % 3))), (.int .i64 ((1 : Int) + (x.f_Outputs % 3))), (.slice none 0 0)])) rfl (fun w => by kernel_rfl)) ?_
  refine wo_alloc rfl za27 fun b28 => ?_
  refine wo_store (i := 0) (vs := [(.int .i64 ((1 : Int) + (x.f_Inputs % 3))), (.int .i64 ((1 : Int) + (x.f_Outputs % 3))), (.slice none 0 0)]) sz27 rfl rfl rfl rfl rfl rfl (one_cons rfl (one_cons rfl (one_cons rfl one_nil))) ?_
  refine wo_nil ?_
  replace hd0 := bd_some hd0; obtain ⟨o30, hd1, hd0⟩ := hd0
  refine wg_meet (γ := (List (List Edge)) × Value × Frag) true [5, 31, 32, 33, 6, 7, 36, 37, 38, 39, 42, 43, 44, 45, 46, 47, 48, 49, 50, 8, 51, 52, 53, 54, 55, 56, 57, 58, 59, 60, 40, 41, 61, 62, 63, 64, 65, 66, 34, 35] (fun g => []) (fun g => [box b5 [(.int .i64 0), (.int .i64 0), (.slice none 0 0)] 27, box b28 [(.int .i64 ((1 : Int) + (x.f_Inputs % 3))), (.int .i64 ((1 : Int) + (x.f_Outputs % 3))), g.2.1] 27, g.2.2] ++ A) (fun g R => o30 = g.1 ∧ NRep false kEdge R g.2.2 g.2.1 g.1 ∧ True) ?_ ?_
  ·
    refine wg_seq ?_
    refine wg_region ?_
    refine wo_v rfl (val_assign (v := (.int .i64 0)) rfl) ?_
    refine wo_nil ?_
    refine wg_block ?_
    refine wg_emp ?_
    refine wg_loopS (γ := Nat × Int × (List (List Edge)) × Value × Frag) true [31, 32, 33, 6, 7, 36, 37, 38, 39, 42, 43, 44, 45, 46, 47, 48, 49, 50, 8, 51, 52, 53, 54, 55, 56, 57, 58, 59, 60, 40, 41, 61, 62, 63, 64, 65, 66, 34, 35, 5] (fun g => [(5, (.int .i64 g.2.1))]) (fun g => [box b5 [(.int .i64 0), (.int .i64 0), (.slice none 0 0)] 27, box b28 [(.int .i64 ((1 : Int) + (x.f_Inputs % 3))), (.int .i64 ((1 : Int) + (x.f_Outputs % 3))), g.2.2.2.1] 27, g.2.2.2.2] ++ A) (fun g R => gauntletlaw06_C_Of_L1 N x g.1 g.2.1 g.2.2.1 = some o30 ∧ NRep false kEdge R g.2.2.2.2 g.2.2.2.1 g.2.2.1 ∧ True) (fun g => g.1) (N, 0, ([] : List (List Edge)), (.slice none 0 0), emp) ⟨rfl, trivial⟩ ⟨[], (pk 2 rfl (pk 1 rfl (pk 0 rfl (List.Perm.refl _))))⟩ ⟨hd1, (nrep_of (n2_nil (t := false) (T := kEdge) (R := R3))), trivial⟩ (fun _ => rfl) ?_
    clear hd1
    rintro ⟨F39, x40, x41, v44, f45⟩ j126 D127 R42 hD128 le43 ⟨hd1, ⟨V47, h46⟩, _⟩
    obtain rfl := hD128 rfl
    rcases F39 with _ | F39
    · exact none_elim hd1
    replace hd1 : gauntletlaw06_C_Of_L1 N x (F39 + 1) x40 x41 = some o30 := hd1; rw [gauntletlaw06_C_Of_L1] at hd1
    refine wg_seq ?_
    refine wg_seq ?_
    refine wg_region ?_
    refine wo_v rfl (val_move (v := (.int .i64 x40)) rfl) ?_
    refine wo_v rfl (val_move (v := (.int .i64 ((1 : Int) + (x.f_States % 6)))) rfl) ?_
    refine wo_v rfl (val_lss rfl rfl) ?_
    refine wo_nil ?_
    refine wg_cond rfl (fun e49 => ?_) (fun e49 => ?_)
    · replace hd1 := sel_t e49 hd1; clear e49
      refine wg_skip ?_
      refine wg_seq ?_
      refine wg_block ?_
      refine wg_seq ?_
      refine wg_region ?_
      refine wo_v rfl (val_assign (v := (.slice none 0 0)) rfl) ?_
      refine wo_nil ?_
      replace hd1 := bd_some hd1; obtain ⟨o50, hd2, hd1⟩ := hd1
      refine wg_meet (γ := (List Edge) × Value × Frag) true [7, 36, 37, 38, 39, 42, 43, 44, 45, 46, 47, 48, 49, 50, 8, 51, 52, 53, 54, 55, 56, 57, 58, 59, 60, 6, 40, 41] (fun g => [(6, g.2.1)]) (fun g => [box b5 [(.int .i64 0), (.int .i64 0), (.slice none 0 0)] 27, box b28 [(.int .i64 ((1 : Int) + (x.f_Inputs % 3))), (.int .i64 ((1 : Int) + (x.f_Outputs % 3))), v44] 27, f45, g.2.2] ++ A) (fun g R => o50 = g.1 ∧ ORep kEdge R g.2.2 g.2.1 g.1 ∧ True) ?_ ?_
      ·
        refine wg_seq ?_
        refine wg_region ?_
        refine wo_v rfl (val_assign (v := (.int .i64 0)) rfl) ?_
        refine wo_nil ?_
        refine wg_block ?_
        refine wg_emp ?_
        refine wg_loopS (γ := Nat × (List Edge) × Int × Value × Frag) true [36, 37, 38, 39, 42, 43, 44, 45, 46, 47, 48, 49, 50, 8, 51, 52, 53, 54, 55, 56, 57, 58, 59, 60, 6, 40, 41, 7] (fun g => [(6, g.2.2.2.1), (7, (.int .i64 g.2.2.1))]) (fun g => [box b5 [(.int .i64 0), (.int .i64 0), (.slice none 0 0)] 27, box b28 [(.int .i64 ((1 : Int) + (x.f_Inputs % 3))), (.int .i64 ((1 : Int) + (x.f_Outputs % 3))), v44] 27, f45, g.2.2.2.2] ++ A) (fun g R => gauntletlaw06_C_Of_L2 N x x40 g.1 g.2.1 g.2.2.1 = some o50 ∧ ORep kEdge R g.2.2.2.2 g.2.2.2.1 g.2.1 ∧ True) (fun g => g.1) (N, ([] : List Edge), 0, (.slice none 0 0), emp) ⟨rfl, rfl, trivial⟩ ⟨[], (pk 1 rfl (pk 1 rfl (pk 1 rfl (pk 0 rfl (List.Perm.refl _)))))⟩ ⟨hd2, (orep_emp (T := kEdge)), trivial⟩ (fun _ => rfl) ?_
        clear hd2
        rintro ⟨F58, x59, x60, v63, f64⟩ j107 D108 R61 hD109 le62 ⟨hd2, h65, _⟩
        obtain rfl := hD109 rfl
        rcases F58 with _ | F58
        · exact none_elim hd2
        replace hd2 : gauntletlaw06_C_Of_L2 N x x40 (F58 + 1) x59 x60 = some o50 := hd2; rw [gauntletlaw06_C_Of_L2] at hd2
        refine wg_seq ?_
        refine wg_seq ?_
        refine wg_region ?_
        refine wo_v rfl (val_move (v := (.int .i64 x60)) rfl) ?_
        refine wo_v rfl (val_fieldB fd27_0 rfl) ?_
        refine wo_v rfl (val_loadB (i := 1) ag3 rfl rfl rfl) ?_
        refine wo_v rfl (val_lss rfl rfl) ?_
        refine wo_nil ?_
        refine wg_cond rfl (fun e67 => ?_) (fun e67 => ?_)
        · replace hd2 := sel_t e67 hd2; clear e67
          refine wg_skip ?_
          refine wg_seq ?_
          refine wg_block ?_
          refine wg_seq ?_
          refine wg_region ?_
          refine wo_fieldR rfl fd77_4 pt_Sgauntletlaw06_C4 rfl (h2.mono (le43.trans le62)) fun v68 h69 => ?_
          refine wo_loadR rfl ty22 rfl h69 fun v70 h71 => ?_
          refine wo_v rfl (val_move (v := (.int .i64 x40)) rfl) ?_
          refine wo_v rfl (val_fieldB fd27_0 rfl) ?_
          refine wo_v rfl (val_loadB (i := 1) ag3 rfl rfl rfl) ?_
          have g72 := (gd_some hd2).1; replace hd2 := (gd_some hd2).2
          refine wo_v rfl (val_mul rfl rfl g72) ?_
          refine wo_v rfl (val_move (v := (.int .i64 x60)) rfl) ?_
          have g73 := (gd_some hd2).1; replace hd2 := (gd_some hd2).2
          refine wo_v rfl (val_add rfl rfl g73) ?_
          replace hd2 := bd_some hd2; obtain ⟨y74, c75, hd2⟩ := hd2
          refine wo_callP rfl en53 rfl (c_gauntletlaw06_number h71 c75) fun v76 R78 le79 h77 => ?_
          obtain rfl := h77
          refine wo_v rfl (val_assign (v := (.int .i64 y74)) rfl) ?_
          refine wo_nil ?_
          have g80 := (gd_some hd2).1; replace hd2 := (gd_some hd2).2
          have g81 := (gd_some hd2).1; replace hd2 := (gd_some hd2).2
          refine wg_drawn 9 [] [phX v63, phX (.int .i64 y74), phX (.int .i64 ((1 : Int) + (x.f_States % 6))), phX (.int .i64 (y74 / ((1 : Int) + (x.f_States % 6)))), phX (.pointer (some ⟨b28, 1, none⟩)), phX (.int .i64 ((1 : Int) + (x.f_Outputs % 3))), phX (.int .i64 ((y74 / ((1 : Int) + (x.f_States % 6))) % ((1 : Int) + (x.f_Outputs % 3)))), phX (.agg #[(.int .i64 (-1)), (.int .i64 ((y74 / ((1 : Int) + (x.f_States % 6))) % ((1 : Int) + (x.f_Outputs % 3))))]), phR (tSl true kEdge) ([(⟨(-1), (y74 / ((1 : Int) + (x.f_States % 6))) % ((1 : Int) + (x.f_Outputs % 3))⟩ : Edge)] : List Edge)] mixed (by kernel_rfl) (monoOk_of ⟨mono_x, mono_x, mono_x, mono_x, mono_x, mono_x, mono_x, mono_x, mono_r, trivial⟩) ⟨?_, ?_, ?_, ?_, ?_, ?_, ?_, ?_, ?_, trivial⟩ fun R82 le83 => ?_
          · intro l R0q hle ha hd
            have a6 : l 6 = v63 := ha 6 rfl
            exact gstep_plain rfl rfl rfl (ph_val (val_move a6))
          · intro l R1q hle ha hd
            have a8 : l 8 = (.int .i64 y74) := ha 8 rfl
            exact gstep_plain rfl rfl rfl (ph_val (val_move a8))
          · intro l R2q hle ha hd
            have a3 : l 3 = (.int .i64 ((1 : Int) + (x.f_States % 6))) := ha 3 rfl
            exact gstep_plain rfl rfl rfl (ph_val (val_move a3))
          · intro l R3q hle ha hd
            obtain ⟨d0, d1, _⟩ := hd
            have f52 : l 52 = (.int .i64 y74) := d0 rfl
            have f53 : l 53 = (.int .i64 ((1 : Int) + (x.f_States % 6))) := d1 rfl
            exact gstep_plain rfl rfl rfl (ph_val (val_quo0 f52 f53 g80))
          · intro l R4q hle ha hd
            have a4 : l 4 = (.pointer (some ⟨b28, 0, none⟩)) := ha 4 rfl
            exact gstep_plain rfl rfl rfl (ph_val (val_fieldB fd27_1 a4))
          · intro l R5q hle ha hd
            obtain ⟨d0, _⟩ := hd
            have f55 : l 55 = (.pointer (some ⟨b28, 1, none⟩)) := d0 rfl
            exact gstep_plain rfl rfl rfl (ph_val (val_loadB (i := 1) ag3 f55 rfl rfl))
          · intro l R6q hle ha hd
            obtain ⟨d0, d1, _⟩ := hd
            have f54 : l 54 = (.int .i64 (y74 / ((1 : Int) + (x.f_States % 6)))) := d0 rfl
            have f56 : l 56 = (.int .i64 ((1 : Int) + (x.f_Outputs % 3))) := d1 rfl
            exact gstep_plain rfl rfl rfl (ph_val (val_rem0 f54 f56 g81))
          · intro l R7q hle ha hd
            obtain ⟨d0, _⟩ := hd
            have f57 : l 57 = (.int .i64 ((y74 / ((1 : Int) + (x.f_States % 6))) % ((1 : Int) + (x.f_Outputs % 3)))) := d0 rfl
            exact gstep_plain rfl rfl rfl (ph_val (val_buildL (ps := [(0, (.int .i64 (-1))), (1, (.int .i64 ((y74 / ((1 : Int) + (x.f_States % 6))) % ((1 : Int) + (x.f_Outputs % 3)))))]) (v := (.agg #[(.int .i64 (-1)), (.int .i64 ((y74 / ((1 : Int) + (x.f_States % 6))) % ((1 : Int) + (x.f_Outputs % 3))))])) (by simp only [List.map, ev, f57] <;> rfl) (fun w => by kernel_rfl)))
          · intro l R8q hle ha hd
            obtain ⟨d0, _⟩ := hd
            have f58 : l 58 = (.agg #[(.int .i64 (-1)), (.int .i64 ((y74 / ((1 : Int) + (x.f_States % 6))) % ((1 : Int) + (x.f_Outputs % 3))))]) := d0 rfl
            exact gstep_plain rfl rfl rfl (ph_litT (T := kEdge) (X := ([(⟨(-1), (y74 / ((1 : Int) + (x.f_States % 6))) % ((1 : Int) + (x.f_Outputs % 3))⟩ : Edge)] : List Edge)) (ps := [(0, (.agg #[(.int .i64 (-1)), (.int .i64 ((y74 / ((1 : Int) + (x.f_States % 6))) % ((1 : Int) + (x.f_Outputs % 3))))]))]) (css := [[(.int .i64 (-1)), (.int .i64 ((y74 / ((1 : Int) + (x.f_States % 6))) % ((1 : Int) + (x.f_Outputs % 3))))]]) Try.underlying50 zo49 (by simp only [List.map, ev, f58] <;> rfl) rfl (lit_reps ⟨⟨_, _, rfl, rfl, rfl⟩, trivial⟩) rfl rfl (by decide))
          intro v84 h85
          intro v86 h87
          intro v88 h89
          intro v90 h91
          intro v92 h93
          intro v94 h95
          intro v96 h97
          intro v98 h99
          intro v100 h101
          obtain rfl := Eq.symm h85
          obtain rfl := Eq.symm h87
          obtain rfl := Eq.symm h89
          obtain rfl := Eq.symm h91
          obtain rfl := Eq.symm h93
          obtain rfl := Eq.symm h95
          obtain rfl := Eq.symm h97
          obtain rfl := Eq.symm h99
          have g102 := (gd_some hd2).1; replace hd2 := (gd_some hd2).2
          refine wo_append (i := 3) (X := x59) (Y := ([(⟨(-1), (y74 / ((1 : Int) + (x.f_States % 6))) % ((1 : Int) + (x.f_Outputs % 3))⟩ : Edge)] : List Edge)) rfl Try.underlying50 zo49 rfl rfl rfl (h65.mono (le79.trans le83)) (sl_s (Sub.v (B := (tSl false kEdge)) (sub_sl Sub.refl (fun _ => rfl)) h101)) g102.1 g102.2 fun v103 f104 h105 => ?_
          refine wo_v rfl (val_assign (v := v103) rfl) ?_
          refine wo_nil ?_
          refine wg_region ?_
          refine wo_v rfl (val_move (v := (.int .i64 x60)) rfl) ?_
          have g106 := (gd_some hd2).1; replace hd2 := (gd_some hd2).2
          refine wo_v rfl (val_add rfl rfl g106) ?_
          refine wo_v rfl (val_assign (v := (.int .i64 (x60 + 1))) rfl) ?_
          refine wo_nil ?_
          exact ⟨(fun _ => rfl), (le79.trans le83), (by repeat (first | exact off_self | refine off_upd rfl ?_ | refine off_setl rfl ?_ | refine off_mask_sub rfl ?_)), (F58, (x59 ++ ([(⟨(-1), (y74 / ((1 : Int) + (x.f_States % 6))) % ((1 : Int) + (x.f_Outputs % 3))⟩ : Edge)] : List Edge)), x60 + 1, v103, f104), Nat.lt_succ_self _, ⟨rfl, rfl, trivial⟩, ⟨[], List.Perm.refl _⟩, hd2, h105, trivial⟩
        · replace hd2 := sel_f e67 hd2; clear e67
          refine wg_exit ?_
          exact ⟨(fun _ => rfl), le62, (by repeat (first | exact off_self | refine off_upd rfl ?_ | refine off_setl rfl ?_ | refine off_mask_sub rfl ?_)), (x59, v63, f64), ⟨rfl, trivial⟩, ⟨[], List.Perm.refl _⟩, (Option.some.inj hd2).symm, h65, trivial⟩
      ·
        rintro ⟨o50, v53, f54⟩ j110 D111 R51 hD112 le52 ⟨rfl, h55, _⟩
        obtain rfl := hD112 rfl
        refine wg_region ?_
        refine wo_v rfl (val_fieldB fd27_2 rfl) ?_
        refine wo_v rfl (val_loadB (i := 1) ag25 rfl rfl rfl) ?_
        refine wo_v rfl (val_move (v := v53) rfl) ?_
        refine wo_phi rfl (ph_litT (T := tHdr) (X := [v53]) (ps := [(0, v53)]) (css := [[v53]]) Try.underlying25 zh50 rfl (by simp only [List.map_cons, List.map_nil, orep_cells h55]; rfl) (lit_reps ⟨hdr_rep (orep_one h55), trivial⟩) rfl rfl (by decide)) fun v113 R115 le116 h114 => ?_
        have g117 := (gd_some hd1).1; replace hd1 := (gd_some hd1).2
        refine wo_turn (Oc := [f45, f54]) (Or := [box b5 [(.int .i64 0), (.int .i64 0), (.slice none 0 0)] 27, box b28 [(.int .i64 ((1 : Int) + (x.f_Inputs % 3))), (.int .i64 ((1 : Int) + (x.f_Outputs % 3))), v44] 27] ++ A) rfl (pk 2 rfl (pk 2 rfl (pk 0 rfl (pk 0 rfl (List.Perm.refl _))))) (eff_appendN Try.underlying25 zh50 rfl rfl (h46.mono (le52.trans le116)) (h55.mono le116) (sl_s h114) (fun e => nomatch e) g117.1 g117.2) ?_
        rintro v120 R123 Oc122 le124 ⟨rfl, f118, rfl, h119⟩
        replace h119 : N2 false kEdge _ f118 v120 (V47 ++ [v53]) (x41 ++ [o50]) := h119
        refine wo_v rfl (val_fieldB fd27_2 rfl) ?_
        refine wo_store (i := 2) (vs := [v120]) sz25 rfl rfl (n2_cells h119) rfl rfl rfl (one_cons (n2_one h119) one_nil) ?_
        refine wo_nil ?_
        refine wg_region ?_
        refine wo_v rfl (val_move (v := (.int .i64 x40)) rfl) ?_
        have g125 := (gd_some hd1).1; replace hd1 := (gd_some hd1).2
        refine wo_v rfl (val_add rfl rfl g125) ?_
        refine wo_v rfl (val_assign (v := (.int .i64 (x40 + 1))) rfl) ?_
        refine wo_nil ?_
        exact ⟨(fun _ => rfl), (le52.trans le116), (by repeat (first | exact off_self | refine off_upd rfl ?_ | refine off_setl rfl ?_ | refine off_mask_sub rfl ?_)), (F39, x40 + 1, (x41 ++ [o50]), v120, f118), Nat.lt_succ_self _, ⟨rfl, trivial⟩, ⟨[], (pk 1 rfl (pk 1 rfl (pk 0 rfl (List.Perm.refl _))))⟩, hd1, (nrep_of h119), trivial⟩
    · replace hd1 := sel_f e49 hd1; clear e49
      refine wg_exit ?_
      exact ⟨(fun _ => rfl), le43, (by repeat (first | exact off_self | refine off_upd rfl ?_ | refine off_setl rfl ?_ | refine off_mask_sub rfl ?_)), (x41, v44, f45), trivial, ⟨[], List.Perm.refl _⟩, (Option.some.inj hd1).symm, (nrep_of h46), trivial⟩
  ·
    rintro ⟨o30, v33, f34⟩ j129 D130 R31 hD131 le32 ⟨rfl, ⟨V36, h35⟩, _⟩
    obtain rfl := hD131 rfl
    replace hd0 := bd_some hd0; obtain ⟨o132, hd1, hd0⟩ := hd0
    refine wg_meet (γ := (List (List Edge)) × Frag) true [9, 67, 68, 69, 10, 11, 72, 73, 74, 75, 76, 77, 80, 81, 82, 83, 84, 85, 86, 87, 88, 89, 90, 91, 92, 93, 94, 95, 96, 97, 98, 99, 78, 79, 100, 101, 102, 12, 103, 104, 105, 106, 107, 108, 109, 110, 111, 112, 113, 114, 115, 116, 117, 118, 119, 120, 121, 122, 123, 124, 125, 126, 127, 128, 129, 130, 131, 132, 133, 134, 135, 136, 70, 71] (fun g => []) (fun g => [box b5 [(.int .i64 0), (.int .i64 0), (.slice none 0 0)] 27, box b28 [(.int .i64 ((1 : Int) + (x.f_Inputs % 3))), (.int .i64 ((1 : Int) + (x.f_Outputs % 3))), v33] 27, g.2] ++ A) (fun g R => o132 = g.1 ∧ NRep false kEdge R g.2 v33 g.1 ∧ True) ?_ ?_
    ·
      refine wg_seq ?_
      refine wg_region ?_
      refine wo_v rfl (val_assign (v := (.int .i64 1)) rfl) ?_
      refine wo_nil ?_
      refine wg_block ?_
      refine wg_loopS (γ := Nat × Int × (List (List Edge)) × Frag) true [67, 68, 69, 10, 11, 72, 73, 74, 75, 76, 77, 80, 81, 82, 83, 84, 85, 86, 87, 88, 89, 90, 91, 92, 93, 94, 95, 96, 97, 98, 99, 78, 79, 100, 101, 102, 12, 103, 104, 105, 106, 107, 108, 109, 110, 111, 112, 113, 114, 115, 116, 117, 118, 119, 120, 121, 122, 123, 124, 125, 126, 127, 128, 129, 130, 131, 132, 133, 134, 135, 136, 70, 71, 9] (fun g => [(9, (.int .i64 g.2.1))]) (fun g => [box b5 [(.int .i64 0), (.int .i64 0), (.slice none 0 0)] 27, box b28 [(.int .i64 ((1 : Int) + (x.f_Inputs % 3))), (.int .i64 ((1 : Int) + (x.f_Outputs % 3))), v33] 27, g.2.2.2] ++ A) (fun g R => gauntletlaw06_C_Of_L3 N x g.1 g.2.1 g.2.2.1 = some o132 ∧ NRep false kEdge R g.2.2.2 v33 g.2.2.1 ∧ True) (fun g => g.1) (N, 1, o30, f34) ⟨rfl, trivial⟩ ⟨[], List.Perm.refl _⟩ ⟨hd1, (nrep_of h35), trivial⟩ (fun _ => rfl) ?_
      clear hd1
      rintro ⟨F138, x139, x140, f143⟩ j312 D313 R141 hD314 le142 ⟨hd1, ⟨V145, h144⟩, _⟩
      obtain rfl := hD314 rfl
      rcases F138 with _ | F138
      · exact none_elim hd1
      replace hd1 : gauntletlaw06_C_Of_L3 N x (F138 + 1) x139 x140 = some o132 := hd1; rw [gauntletlaw06_C_Of_L3] at hd1
      refine wg_seq ?_
      refine wg_seq ?_
      refine wg_region ?_
      refine wo_v rfl (val_move (v := (.int .i64 x139)) rfl) ?_
      refine wo_v rfl (val_move (v := (.int .i64 ((1 : Int) + (x.f_States % 6)))) rfl) ?_
      refine wo_v rfl (val_lss rfl rfl) ?_
      refine wo_nil ?_
      refine wg_cond rfl (fun e146 => ?_) (fun e146 => ?_)
      · replace hd1 := sel_t e146 hd1; clear e146
        refine wg_skip ?_
        refine wg_seq ?_
        refine wg_block ?_
        refine wg_seq ?_
        refine wg_region ?_
        refine wo_v rfl (val_assign (v := (.slice none 0 0)) rfl) ?_
        refine wo_nil ?_
        replace hd1 := bd_some hd1; obtain ⟨o147, hd2, hd1⟩ := hd1
        refine wg_meet (γ := (List Int) × Value × Frag) true [11, 72, 73, 74, 75, 76, 77, 80, 81, 82, 83, 84, 85, 86, 87, 88, 89, 90, 91, 92, 93, 94, 95, 96, 97, 98, 99, 10, 78, 79] (fun g => [(10, g.2.1)]) (fun g => [box b5 [(.int .i64 0), (.int .i64 0), (.slice none 0 0)] 27, box b28 [(.int .i64 ((1 : Int) + (x.f_Inputs % 3))), (.int .i64 ((1 : Int) + (x.f_Outputs % 3))), v33] 27, f143, g.2.2] ++ A) (fun g R => o147 = g.1 ∧ ORep (tInt .i64) R g.2.2 g.2.1 g.1 ∧ True) ?_ ?_
        ·
          refine wg_seq ?_
          refine wg_region ?_
          refine wo_v rfl (val_assign (v := (.int .i64 0)) rfl) ?_
          refine wo_nil ?_
          refine wg_block ?_
          refine wg_emp ?_
          refine wg_loopS (γ := Nat × (List Int) × Int × Value × Frag) true [72, 73, 74, 75, 76, 77, 80, 81, 82, 83, 84, 85, 86, 87, 88, 89, 90, 91, 92, 93, 94, 95, 96, 97, 98, 99, 10, 78, 79, 11] (fun g => [(10, g.2.2.2.1), (11, (.int .i64 g.2.2.1))]) (fun g => [box b5 [(.int .i64 0), (.int .i64 0), (.slice none 0 0)] 27, box b28 [(.int .i64 ((1 : Int) + (x.f_Inputs % 3))), (.int .i64 ((1 : Int) + (x.f_Outputs % 3))), v33] 27, f143, g.2.2.2.2] ++ A) (fun g R => gauntletlaw06_C_Of_L4 N x x139 x140 g.1 g.2.1 g.2.2.1 = some o147 ∧ ORep (tInt .i64) R g.2.2.2.2 g.2.2.2.1 g.2.1 ∧ True) (fun g => g.1) (N, ([] : List Int), 0, (.slice none 0 0), emp) ⟨rfl, rfl, trivial⟩ ⟨[], (pk 1 rfl (pk 1 rfl (pk 1 rfl (pk 0 rfl (List.Perm.refl _)))))⟩ ⟨hd2, (orep_emp (T := (tInt .i64))), trivial⟩ (fun _ => rfl) ?_
          clear hd2
          rintro ⟨F155, x156, x157, v160, f161⟩ j228 D229 R158 hD230 le159 ⟨hd2, h162, _⟩
          obtain rfl := hD230 rfl
          rcases F155 with _ | F155
          · exact none_elim hd2
          replace hd2 : gauntletlaw06_C_Of_L4 N x x139 x140 (F155 + 1) x156 x157 = some o147 := hd2; rw [gauntletlaw06_C_Of_L4] at hd2
          refine wg_seq ?_
          refine wg_seq ?_
          refine wg_region ?_
          refine wo_v rfl (val_move (v := (.int .i64 x157)) rfl) ?_
          refine wo_v rfl (val_move (v := (.int .i64 x139)) rfl) ?_
          refine wo_v rfl (val_fieldB fd27_0 rfl) ?_
          refine wo_v rfl (val_loadB (i := 1) ag3 rfl rfl rfl) ?_
          have g164 := (gd_some hd2).1; replace hd2 := (gd_some hd2).2
          refine wo_v rfl (val_mul rfl rfl g164) ?_
          refine wo_v rfl (val_lss rfl rfl) ?_
          refine wo_nil ?_
          refine wg_cond rfl (fun e165 => ?_) (fun e165 => ?_)
          · replace hd2 := sel_t e165 hd2; clear e165
            refine wg_skip ?_
            replace hd2 := bd_some hd2; obtain ⟨o166, hd3, hd2⟩ := hd2
            refine wg_meet (γ := (List Int) × Value × Frag) true [80, 81, 82, 83, 84, 85, 86, 87, 88, 89, 90, 91, 92, 93, 94, 95, 96, 97, 98, 99, 10] (fun g => [(10, g.2.1)]) (fun g => [box b5 [(.int .i64 0), (.int .i64 0), (.slice none 0 0)] 27, box b28 [(.int .i64 ((1 : Int) + (x.f_Inputs % 3))), (.int .i64 ((1 : Int) + (x.f_Outputs % 3))), v33] 27, f143, g.2.2] ++ A) (fun g R => o166 = g.1 ∧ ORep (tInt .i64) R g.2.2 g.2.1 g.1 ∧ True) ?_ ?_
            ·
              refine wg_block ?_
              refine wg_seq ?_
              have g172 := (gd_some hd3).1; replace hd3 := (gd_some hd3).2
              have g173 := (gd_some hd3).1; replace hd3 := (gd_some hd3).2
              have g174 := (gd_some hd3).1; replace hd3 := (gd_some hd3).2
              have g175 := (gd_some hd3).1; replace hd3 := (gd_some hd3).2
              refine wg_drawn 16 [] [phX (.pointer (some ⟨b28, 2, none⟩)), phX v33, phX (.int .i64 x157), phX (.pointer (some ⟨b28, 0, none⟩)), phX (.int .i64 ((1 : Int) + (x.f_Inputs % 3))), phX (.int .i64 (x157 / ((1 : Int) + (x.f_Inputs % 3)))), (fun u _ => OPtr tHdr v33 V145 u (x157 / ((1 : Int) + (x.f_Inputs % 3))).toNat), phX (V145.getD (x157 / ((1 : Int) + (x.f_Inputs % 3))).toNat default), phX (.int .i64 x157), phX (.pointer (some ⟨b28, 0, none⟩)), phX (.int .i64 ((1 : Int) + (x.f_Inputs % 3))), phX (.int .i64 (x157 % ((1 : Int) + (x.f_Inputs % 3)))), (fun u _ => OPtr kEdge (V145.getD (x157 / ((1 : Int) + (x.f_Inputs % 3))).toNat default) (x140.getD (x157 / ((1 : Int) + (x.f_Inputs % 3))).toNat default) u (x157 % ((1 : Int) + (x.f_Inputs % 3))).toNat), (fun u _ => OPtrF kEdge 0 (V145.getD (x157 / ((1 : Int) + (x.f_Inputs % 3))).toNat default) (x140.getD (x157 / ((1 : Int) + (x.f_Inputs % 3))).toNat default) u (x157 % ((1 : Int) + (x.f_Inputs % 3))).toNat), phX (.int .i64 ((ix (ix x140 (x157 / ((1 : Int) + (x.f_Inputs % 3)))) (x157 % ((1 : Int) + (x.f_Inputs % 3)))).to)), phX (.bool (decide (((ix (ix x140 (x157 / ((1 : Int) + (x.f_Inputs % 3)))) (x157 % ((1 : Int) + (x.f_Inputs % 3)))).to) < 0)))] mixed (by kernel_rfl) (monoOk_of ⟨mono_x, mono_x, mono_x, mono_x, mono_x, mono_x, (fun _ _ _ _ h => h), mono_x, mono_x, mono_x, mono_x, mono_x, (fun _ _ _ _ h => h), (fun _ _ _ _ h => h), mono_x, mono_x, trivial⟩) ⟨?_, ?_, ?_, ?_, ?_, ?_, ?_, ?_, ?_, ?_, ?_, ?_, ?_, ?_, ?_, ?_, trivial⟩ fun R176 le177 => ?_
              · intro l R0q hle ha hd
                have a4 : l 4 = (.pointer (some ⟨b28, 0, none⟩)) := ha 4 rfl
                exact gstep_plain rfl rfl rfl (ph_val (val_fieldB fd27_2 a4))
              · intro l R1q hle ha hd
                obtain ⟨d0, _⟩ := hd
                have f80 : l 80 = (.pointer (some ⟨b28, 2, none⟩)) := d0 rfl
                exact gstep_plain rfl rfl rfl (ph_val (val_loadB (i := 1) ag25 f80 rfl rfl))
              · intro l R2q hle ha hd
                have a11 : l 11 = (.int .i64 x157) := ha 11 rfl
                exact gstep_plain rfl rfl rfl (ph_val (val_move a11))
              · intro l R3q hle ha hd
                have a4 : l 4 = (.pointer (some ⟨b28, 0, none⟩)) := ha 4 rfl
                exact gstep_plain rfl rfl rfl (ph_val (val_fieldB fd27_0 a4))
              · intro l R4q hle ha hd
                obtain ⟨d0, _⟩ := hd
                have f83 : l 83 = (.pointer (some ⟨b28, 0, none⟩)) := d0 rfl
                exact gstep_plain rfl rfl rfl (ph_val (val_loadB (i := 1) ag3 f83 rfl rfl))
              · intro l R5q hle ha hd
                obtain ⟨d0, d1, _⟩ := hd
                have f82 : l 82 = (.int .i64 x157) := d0 rfl
                have f84 : l 84 = (.int .i64 ((1 : Int) + (x.f_Inputs % 3))) := d1 rfl
                exact gstep_plain rfl rfl rfl (ph_val (val_quo0 f82 f84 g172))
              · intro l R6q hle ha hd
                obtain ⟨d0, d1, _⟩ := hd
                have f81 : l 81 = v33 := d0 rfl
                have f85 : l 85 = (.int .i64 (x157 / ((1 : Int) + (x.f_Inputs % 3)))) := d1 rfl
                exact gstep_plain rfl rfl rfl (ph_indexN (i := (x157 / ((1 : Int) + (x.f_Inputs % 3))).toNat) (sl_hdr (b := true) sl25) f81 ((h144.mono le159).mono hle) (idx_nonneg f85 g173.1) (okI_lt g173))
              · intro l R7q hle ha hd
                obtain ⟨d0, _⟩ := hd
                have f86 : (fun u _ => OPtr tHdr v33 V145 u (x157 / ((1 : Int) + (x.f_Inputs % 3))).toNat) (l 86) R7q := d0 rfl
                exact gstep_plain rfl rfl rfl (ph_loadN (i := (x157 / ((1 : Int) + (x.f_Inputs % 3))).toNat) (j := 2) (ty_hdr (b := true) ty50) ((h144.mono le159).mono hle) rfl rfl f86 (okI_lt g173))
              · intro l R8q hle ha hd
                have a11 : l 11 = (.int .i64 x157) := ha 11 rfl
                exact gstep_plain rfl rfl rfl (ph_val (val_move a11))
              · intro l R9q hle ha hd
                have a4 : l 4 = (.pointer (some ⟨b28, 0, none⟩)) := ha 4 rfl
                exact gstep_plain rfl rfl rfl (ph_val (val_fieldB fd27_0 a4))
              · intro l R10q hle ha hd
                obtain ⟨d0, _⟩ := hd
                have f89 : l 89 = (.pointer (some ⟨b28, 0, none⟩)) := d0 rfl
                exact gstep_plain rfl rfl rfl (ph_val (val_loadB (i := 1) ag3 f89 rfl rfl))
              · intro l R11q hle ha hd
                obtain ⟨d0, d1, _⟩ := hd
                have f88 : l 88 = (.int .i64 x157) := d0 rfl
                have f90 : l 90 = (.int .i64 ((1 : Int) + (x.f_Inputs % 3))) := d1 rfl
                exact gstep_plain rfl rfl rfl (ph_val (val_rem0 f88 f90 g174))
              · intro l R12q hle ha hd
                obtain ⟨d0, d1, _⟩ := hd
                have f87 : l 87 = (V145.getD (x157 / ((1 : Int) + (x.f_Inputs % 3))).toNat default) := d0 rfl
                have f91 : l 91 = (.int .i64 (x157 % ((1 : Int) + (x.f_Inputs % 3)))) := d1 rfl
                exact gstep_plain rfl rfl rfl (ph_indexNR (i := (x157 % ((1 : Int) + (x.f_Inputs % 3))).toNat) (r := (x157 / ((1 : Int) + (x.f_Inputs % 3))).toNat) sl50 ((h144.mono le159).mono hle) (okI_lt g173) f87 (idx_nonneg f91 g175.1) (okI_lt g175))
              · intro l R13q hle ha hd
                obtain ⟨d0, _⟩ := hd
                have f92 : (fun u _ => OPtr kEdge (V145.getD (x157 / ((1 : Int) + (x.f_Inputs % 3))).toNat default) (x140.getD (x157 / ((1 : Int) + (x.f_Inputs % 3))).toNat default) u (x157 % ((1 : Int) + (x.f_Inputs % 3))).toNat) (l 92) R13q := d0 rfl
                exact gstep_plain rfl rfl rfl (ph_fieldO fd49_0 rfl f92)
              · intro l R14q hle ha hd
                obtain ⟨d0, _⟩ := hd
                have f93 : (fun u _ => OPtrF kEdge 0 (V145.getD (x157 / ((1 : Int) + (x.f_Inputs % 3))).toNat default) (x140.getD (x157 / ((1 : Int) + (x.f_Inputs % 3))).toNat default) u (x157 % ((1 : Int) + (x.f_Inputs % 3))).toNat) (l 93) R14q := d0 rfl
                exact gstep_plain rfl rfl rfl (ph_exact (ph_loadNRF (i := (x157 % ((1 : Int) + (x.f_Inputs % 3))).toNat) (r := (x157 / ((1 : Int) + (x.f_Inputs % 3))).toNat) (j := 2) ty3 pt_Edge0 ((h144.mono le159).mono hle) (okI_lt g173) rfl rfl f93 (okI_lt g175)) (fun _ _ h => vrep_int.1 h))
              · intro l R15q hle ha hd
                obtain ⟨d0, _⟩ := hd
                have f94 : l 94 = (.int .i64 ((ix (ix x140 (x157 / ((1 : Int) + (x.f_Inputs % 3)))) (x157 % ((1 : Int) + (x.f_Inputs % 3)))).to)) := d0 rfl
                exact gstep_plain rfl rfl rfl (ph_val (val_lss f94 rfl))
              intro v178 h179
              intro v180 h181
              intro v182 h183
              intro v184 h185
              intro v186 h187
              intro v188 h189
              intro v190 h191
              intro v192 h193
              intro v194 h195
              intro v196 h197
              intro v198 h199
              intro v200 h201
              intro v202 h203
              intro v204 h205
              intro v206 h207
              intro v208 h209
              obtain rfl := Eq.symm h179
              obtain rfl := Eq.symm h181
              obtain rfl := Eq.symm h183
              obtain rfl := Eq.symm h185
              obtain rfl := Eq.symm h187
              obtain rfl := Eq.symm h189
              obtain rfl := Eq.symm h193
              obtain rfl := Eq.symm h195
              obtain rfl := Eq.symm h197
              obtain rfl := Eq.symm h199
              obtain rfl := Eq.symm h201
              replace h205 : OPtrF kEdge 0 (V145.getD (x157 / ((1 : Int) + (x.f_Inputs % 3))).toNat default) (x140.getD (x157 / ((1 : Int) + (x.f_Inputs % 3))).toNat default) v204 (x157 % ((1 : Int) + (x.f_Inputs % 3))).toNat := h205
              obtain rfl := Eq.symm h207
              obtain rfl := Eq.symm h209
              refine wo_nil ?_
              refine wg_cond rfl (fun e210 => ?_) (fun e210 => ?_)
              · replace hd3 := sel_t e210 hd3; clear e210
                refine wg_region ?_
                refine wo_v rfl (val_move (v := v160) rfl) ?_
                refine wo_v rfl (val_move (v := (.int .i64 x157)) rfl) ?_
                refine wo_lit (T := (tInt .i64)) (X := ([x157] : List Int)) (ps := [(0, (.int .i64 x157))]) (css := [[(.int .i64 x157)]]) rfl Try.underlying36 zo3 rfl rfl (lit_reps ⟨rfl, trivial⟩) rfl rfl (by decide) fun v211 f212 cap213 h214 => ?_
                refine wo_freeze (i := 0) rfl h214 fun R216 le217 h218 => ?_
                have h219 : VRep (tSl true (tInt .i64)) R216 v211 ([x157] : List Int) := (sl_t h218 cap213)
                have g220 := (gd_some hd3).1; replace hd3 := (gd_some hd3).2
                refine wo_append (i := 3) (X := x156) (Y := ([x157] : List Int)) rfl Try.underlying36 zo3 rfl rfl rfl (h162.mono (le177.trans le217)) (sl_s (Sub.v (B := (tSl false (tInt .i64))) (sub_sl Sub.refl (fun _ => rfl)) h219)) g220.1 g220.2 fun v221 f222 h223 => ?_
                refine wo_v rfl (val_assign (v := v221) rfl) ?_
                refine wo_nil ?_
                exact ⟨(fun _ => rfl), (le177.trans le217), (by repeat (first | exact off_self | refine off_upd rfl ?_ | refine off_setl rfl ?_ | refine off_mask_sub rfl ?_)), ((x156 ++ ([x157] : List Int)), v221, f222), ⟨rfl, trivial⟩, ⟨[], List.Perm.refl _⟩, (Option.some.inj hd3).symm, h223, trivial⟩
              · replace hd3 := sel_f e210 hd3; clear e210
                refine wg_skip ?_
                exact ⟨(fun _ => rfl), le177, (by repeat (first | exact off_self | refine off_upd rfl ?_ | refine off_setl rfl ?_ | refine off_mask_sub rfl ?_)), (x156, v160, f161), ⟨rfl, trivial⟩, ⟨[], List.Perm.refl _⟩, (Option.some.inj hd3).symm, (h162.mono le177), trivial⟩
            ·
              rintro ⟨o166, v169, f170⟩ j224 D225 R167 hD226 le168 ⟨rfl, h171, _⟩
              obtain rfl := hD226 rfl
              refine wg_region ?_
              refine wo_v rfl (val_move (v := (.int .i64 x157)) rfl) ?_
              have g227 := (gd_some hd2).1; replace hd2 := (gd_some hd2).2
              refine wo_v rfl (val_add rfl rfl g227) ?_
              refine wo_v rfl (val_assign (v := (.int .i64 (x157 + 1))) rfl) ?_
              refine wo_nil ?_
              exact ⟨(fun _ => rfl), le168, (by repeat (first | exact off_self | refine off_upd rfl ?_ | refine off_setl rfl ?_ | refine off_mask_sub rfl ?_)), (F155, o166, x157 + 1, v169, f170), Nat.lt_succ_self _, ⟨rfl, rfl, trivial⟩, ⟨[], List.Perm.refl _⟩, hd2, h171, trivial⟩
          · replace hd2 := sel_f e165 hd2; clear e165
            refine wg_exit ?_
            exact ⟨(fun _ => rfl), le159, (by repeat (first | exact off_self | refine off_upd rfl ?_ | refine off_setl rfl ?_ | refine off_mask_sub rfl ?_)), (x156, v160, f161), ⟨rfl, trivial⟩, ⟨[], List.Perm.refl _⟩, (Option.some.inj hd2).symm, h162, trivial⟩
        ·
          rintro ⟨o147, v150, f151⟩ j231 D232 R148 hD233 le149 ⟨rfl, h152, _⟩
          obtain rfl := hD233 rfl
          refine wg_seq ?_
          refine wg_region ?_
          refine wo_v rfl (val_move (v := v150) rfl) ?_
          have g234 := (gd_some hd1).1; replace hd1 := (gd_some hd1).2
          refine wo_indexO (i := (0 : Int).toNat) rfl sl36 rfl h152 (idx_nonneg rfl g234.1) (okI_lt g234) fun v235 h236 => ?_
          refine wo_loadO (i := (0 : Int).toNat) (j := 3) rfl ty3 h152 rfl rfl h236 (okI_lt g234) fun v237 h238 => ?_
          obtain rfl := vrep_int.1 h238
          refine wo_v rfl (val_assign (v := (.int .i64 (ix o147 0))) rfl) ?_
          refine wo_nil ?_
          replace hd1 := bd_some hd1; obtain ⟨o239, hd2, hd1⟩ := hd1
          refine wg_meet (γ := Int) true [103, 104, 105, 106, 107, 108, 109, 110, 111, 112, 113, 114, 115, 116, 117, 118, 119, 120, 121, 12] (fun g => [(12, (.int .i64 g))]) (fun g => [box b5 [(.int .i64 0), (.int .i64 0), (.slice none 0 0)] 27, box b28 [(.int .i64 ((1 : Int) + (x.f_Inputs % 3))), (.int .i64 ((1 : Int) + (x.f_Outputs % 3))), v33] 27, f143] ++ A) (fun g R => o239 = g ∧ True) ?_ ?_
          ·
            refine wg_seq ?_
            refine wg_region ?_
            refine wo_v rfl (val_move (v := (.int .i64 x139)) rfl) ?_
            have g242 := (gd_some hd2).1; replace hd2 := (gd_some hd2).2
            refine wo_v rfl (val_sub rfl rfl g242) ?_
            refine wo_fieldR rfl fd77_3 pt_Sgauntletlaw06_C3 rfl (h2.mono ((le32.trans le142).trans le149)) fun v243 h244 => ?_
            refine wo_loadR rfl ty52 rfl h244 fun v245 h246 => ?_
            refine wo_v rfl (val_lenR rfl Try.underlying52 rfl (sl_s h246)) ?_
            refine wo_v rfl (val_lss rfl rfl) ?_
            refine wo_nil ?_
            refine wg_cond rfl (fun e247 => ?_) (fun e247 => ?_)
            · replace hd2 := sel_t e247 hd2; clear e247
              refine wg_region ?_
              refine wo_v rfl (val_move (v := v150) rfl) ?_
              refine wo_fieldR rfl fd77_3 pt_Sgauntletlaw06_C3 rfl (h2.mono ((le32.trans le142).trans le149)) fun v248 h249 => ?_
              refine wo_loadR rfl ty52 rfl h249 fun v250 h251 => ?_
              refine wo_v rfl (val_move (v := (.int .i64 x139)) rfl) ?_
              have g252 := (gd_some hd2).1; replace hd2 := (gd_some hd2).2
              refine wo_v rfl (val_sub rfl rfl g252) ?_
              have g253 := (gd_some hd2).1; replace hd2 := (gd_some hd2).2
              refine wo_indexR (i := (x139 - 1).toNat) rfl sl52 rfl (sl_s h251) (idx_nonneg rfl g253.1) (okI_lt g253) fun v254 h255 => ?_
              refine wo_loadR rfl ty5 rfl h255 fun v256 h257 => ?_
              obtain rfl := vrep_int.1 h257
              have g258 := (gd_some hd2).1; replace hd2 := (gd_some hd2).2
              refine wo_v rfl (val_conv64 Try.underlying5 Try.underlying3 rfl g258) ?_
              refine wo_v rfl (val_move (v := v150) rfl) ?_
              refine wo_v rfl (val_lenO rfl Try.underlying36 rfl h152) ?_
              have g259 := (gd_some hd2).1; replace hd2 := (gd_some hd2).2
              refine wo_v rfl (val_rem0 rfl rfl g259) ?_
              have g260 := (gd_some hd2).1; replace hd2 := (gd_some hd2).2
              refine wo_indexO (i := ((ix x.f_Tree (x139 - 1)) % (↑o147.length : Int)).toNat) rfl sl36 rfl h152 (idx_nonneg rfl g260.1) (okI_lt g260) fun v261 h262 => ?_
              refine wo_loadO (i := ((ix x.f_Tree (x139 - 1)) % (↑o147.length : Int)).toNat) (j := 3) rfl ty3 h152 rfl rfl h262 (okI_lt g260) fun v263 h264 => ?_
              obtain rfl := vrep_int.1 h264
              refine wo_v rfl (val_assign (v := (.int .i64 (ix o147 ((ix x.f_Tree (x139 - 1)) % (↑o147.length : Int))))) rfl) ?_
              refine wo_nil ?_
              exact ⟨(fun _ => rfl), (RH.le.refl _), (by repeat (first | exact off_self | refine off_upd rfl ?_ | refine off_setl rfl ?_ | refine off_mask_sub rfl ?_)), (ix o147 ((ix x.f_Tree (x139 - 1)) % (↑o147.length : Int))), ⟨rfl, trivial⟩, ⟨[f151], (pk 3 rfl (pk 0 rfl (pk 0 rfl (pk 0 rfl (List.Perm.refl _)))))⟩, (Option.some.inj hd2).symm, trivial⟩
            · replace hd2 := sel_f e247 hd2; clear e247
              refine wg_skip ?_
              exact ⟨(fun _ => rfl), (RH.le.refl _), (by repeat (first | exact off_self | refine off_upd rfl ?_ | refine off_setl rfl ?_ | refine off_mask_sub rfl ?_)), (ix o147 0), ⟨rfl, trivial⟩, ⟨[f151], (pk 3 rfl (pk 0 rfl (pk 0 rfl (pk 0 rfl (List.Perm.refl _)))))⟩, (Option.some.inj hd2).symm, trivial⟩
          ·
            rintro o239 j265 D266 R240 hD267 le241 ⟨rfl, _⟩
            obtain rfl := hD267 rfl
            have g268 := (gd_some hd1).1; replace hd1 := (gd_some hd1).2
            have g269 := (gd_some hd1).1; replace hd1 := (gd_some hd1).2
            have g270 := (gd_some hd1).1; replace hd1 := (gd_some hd1).2
            have g271 := (gd_some hd1).1; replace hd1 := (gd_some hd1).2
            refine wg_drawn 15 [] [phX (.pointer (some ⟨b28, 2, none⟩)), phX v33, phX (.int .i64 o239), phX (.pointer (some ⟨b28, 0, none⟩)), phX (.int .i64 ((1 : Int) + (x.f_Inputs % 3))), phX (.int .i64 (o239 / ((1 : Int) + (x.f_Inputs % 3)))), (fun u _ => OPtr tHdr v33 V145 u (o239 / ((1 : Int) + (x.f_Inputs % 3))).toNat), phX (V145.getD (o239 / ((1 : Int) + (x.f_Inputs % 3))).toNat default), phX (.int .i64 o239), phX (.pointer (some ⟨b28, 0, none⟩)), phX (.int .i64 ((1 : Int) + (x.f_Inputs % 3))), phX (.int .i64 (o239 % ((1 : Int) + (x.f_Inputs % 3)))), phX (.int .i64 x139), (fun u _ => OPtr kEdge (V145.getD (o239 / ((1 : Int) + (x.f_Inputs % 3))).toNat default) (x140.getD (o239 / ((1 : Int) + (x.f_Inputs % 3))).toNat default) u (o239 % ((1 : Int) + (x.f_Inputs % 3))).toNat), (fun u _ => OPtrF kEdge 0 (V145.getD (o239 / ((1 : Int) + (x.f_Inputs % 3))).toNat default) (x140.getD (o239 / ((1 : Int) + (x.f_Inputs % 3))).toNat default) u (o239 % ((1 : Int) + (x.f_Inputs % 3))).toNat)] mixed (by kernel_rfl) (monoOk_of ⟨mono_x, mono_x, mono_x, mono_x, mono_x, mono_x, (fun _ _ _ _ h => h), mono_x, mono_x, mono_x, mono_x, mono_x, mono_x, (fun _ _ _ _ h => h), (fun _ _ _ _ h => h), trivial⟩) ⟨?_, ?_, ?_, ?_, ?_, ?_, ?_, ?_, ?_, ?_, ?_, ?_, ?_, ?_, ?_, trivial⟩ fun R272 le273 => ?_
            · intro l R0q hle ha hd
              have a4 : l 4 = (.pointer (some ⟨b28, 0, none⟩)) := ha 4 rfl
              exact gstep_plain rfl rfl rfl (ph_val (val_fieldB fd27_2 a4))
            · intro l R1q hle ha hd
              obtain ⟨d0, _⟩ := hd
              have f122 : l 122 = (.pointer (some ⟨b28, 2, none⟩)) := d0 rfl
              exact gstep_plain rfl rfl rfl (ph_val (val_loadB (i := 1) ag25 f122 rfl rfl))
            · intro l R2q hle ha hd
              have a12 : l 12 = (.int .i64 o239) := ha 12 rfl
              exact gstep_plain rfl rfl rfl (ph_val (val_move a12))
            · intro l R3q hle ha hd
              have a4 : l 4 = (.pointer (some ⟨b28, 0, none⟩)) := ha 4 rfl
              exact gstep_plain rfl rfl rfl (ph_val (val_fieldB fd27_0 a4))
            · intro l R4q hle ha hd
              obtain ⟨d0, _⟩ := hd
              have f125 : l 125 = (.pointer (some ⟨b28, 0, none⟩)) := d0 rfl
              exact gstep_plain rfl rfl rfl (ph_val (val_loadB (i := 1) ag3 f125 rfl rfl))
            · intro l R5q hle ha hd
              obtain ⟨d0, d1, _⟩ := hd
              have f124 : l 124 = (.int .i64 o239) := d0 rfl
              have f126 : l 126 = (.int .i64 ((1 : Int) + (x.f_Inputs % 3))) := d1 rfl
              exact gstep_plain rfl rfl rfl (ph_val (val_quo0 f124 f126 g268))
            · intro l R6q hle ha hd
              obtain ⟨d0, d1, _⟩ := hd
              have f123 : l 123 = v33 := d0 rfl
              have f127 : l 127 = (.int .i64 (o239 / ((1 : Int) + (x.f_Inputs % 3)))) := d1 rfl
              exact gstep_plain rfl rfl rfl (ph_indexN (i := (o239 / ((1 : Int) + (x.f_Inputs % 3))).toNat) (sl_hdr (b := true) sl25) f123 ((h144.mono (le149.trans le241)).mono hle) (idx_nonneg f127 g269.1) (okI_lt g269))
            · intro l R7q hle ha hd
              obtain ⟨d0, _⟩ := hd
              have f128 : (fun u _ => OPtr tHdr v33 V145 u (o239 / ((1 : Int) + (x.f_Inputs % 3))).toNat) (l 128) R7q := d0 rfl
              exact gstep_plain rfl rfl rfl (ph_loadN (i := (o239 / ((1 : Int) + (x.f_Inputs % 3))).toNat) (j := 2) (ty_hdr (b := true) ty50) ((h144.mono (le149.trans le241)).mono hle) rfl rfl f128 (okI_lt g269))
            · intro l R8q hle ha hd
              have a12 : l 12 = (.int .i64 o239) := ha 12 rfl
              exact gstep_plain rfl rfl rfl (ph_val (val_move a12))
            · intro l R9q hle ha hd
              have a4 : l 4 = (.pointer (some ⟨b28, 0, none⟩)) := ha 4 rfl
              exact gstep_plain rfl rfl rfl (ph_val (val_fieldB fd27_0 a4))
            · intro l R10q hle ha hd
              obtain ⟨d0, _⟩ := hd
              have f131 : l 131 = (.pointer (some ⟨b28, 0, none⟩)) := d0 rfl
              exact gstep_plain rfl rfl rfl (ph_val (val_loadB (i := 1) ag3 f131 rfl rfl))
            · intro l R11q hle ha hd
              obtain ⟨d0, d1, _⟩ := hd
              have f130 : l 130 = (.int .i64 o239) := d0 rfl
              have f132 : l 132 = (.int .i64 ((1 : Int) + (x.f_Inputs % 3))) := d1 rfl
              exact gstep_plain rfl rfl rfl (ph_val (val_rem0 f130 f132 g270))
            · intro l R12q hle ha hd
              have a9 : l 9 = (.int .i64 x139) := ha 9 rfl
              exact gstep_plain rfl rfl rfl (ph_val (val_move a9))
            · intro l R13q hle ha hd
              obtain ⟨d0, d1, d2, d3, d4, d5, d6, d7, d8, d9, d10, d11, d12, d13, d14, _⟩ := hd
              have f129 : l 129 = (V145.getD (o239 / ((1 : Int) + (x.f_Inputs % 3))).toNat default) := d0 rfl
              have f133 : l 133 = (.int .i64 (o239 % ((1 : Int) + (x.f_Inputs % 3)))) := d1 rfl
              exact gstep_plain rfl rfl rfl (ph_indexNR (i := (o239 % ((1 : Int) + (x.f_Inputs % 3))).toNat) (r := (o239 / ((1 : Int) + (x.f_Inputs % 3))).toNat) sl50 ((h144.mono (le149.trans le241)).mono hle) (okI_lt g269) f129 (idx_nonneg f133 g271.1) (okI_lt g271))
            · intro l R14q hle ha hd
              obtain ⟨d0, d1, d2, d3, d4, d5, d6, d7, d8, d9, d10, d11, d12, d13, _⟩ := hd
              have f135 : (fun u _ => OPtr kEdge (V145.getD (o239 / ((1 : Int) + (x.f_Inputs % 3))).toNat default) (x140.getD (o239 / ((1 : Int) + (x.f_Inputs % 3))).toNat default) u (o239 % ((1 : Int) + (x.f_Inputs % 3))).toNat) (l 135) R14q := d0 rfl
              exact gstep_plain rfl rfl rfl (ph_fieldO fd49_0 rfl f135)
            intro v274 h275
            intro v276 h277
            intro v278 h279
            intro v280 h281
            intro v282 h283
            intro v284 h285
            intro v286 h287
            intro v288 h289
            intro v290 h291
            intro v292 h293
            intro v294 h295
            intro v296 h297
            intro v298 h299
            intro v300 h301
            intro v302 h303
            obtain rfl := Eq.symm h275
            obtain rfl := Eq.symm h277
            obtain rfl := Eq.symm h279
            obtain rfl := Eq.symm h281
            obtain rfl := Eq.symm h283
            obtain rfl := Eq.symm h285
            obtain rfl := Eq.symm h289
            obtain rfl := Eq.symm h291
            obtain rfl := Eq.symm h293
            obtain rfl := Eq.symm h295
            obtain rfl := Eq.symm h297
            obtain rfl := Eq.symm h299
            replace h303 : OPtrF kEdge 0 (V145.getD (o239 / ((1 : Int) + (x.f_Inputs % 3))).toNat default) (x140.getD (o239 / ((1 : Int) + (x.f_Inputs % 3))).toNat default) v302 (o239 % ((1 : Int) + (x.f_Inputs % 3))).toNat := h303
            refine wo_turn0 (Oc := [f143]) (Or := [box b5 [(.int .i64 0), (.int .i64 0), (.slice none 0 0)] 27, box b28 [(.int .i64 ((1 : Int) + (x.f_Inputs % 3))), (.int .i64 ((1 : Int) + (x.f_Outputs % 3))), v33] 27] ++ A) (pk 2 rfl (pk 0 rfl (pk 0 rfl (List.Perm.refl _)))) (eff_storeNF (i := (o239 % ((1 : Int) + (x.f_Inputs % 3))).toNat) (r := (o239 / ((1 : Int) + (x.f_Inputs % 3))).toNat) (u := v302) ps_Edge0 ty3 (h144.mono ((le149.trans le241).trans le273)) (okI_lt g269) rfl h303 (okI_lt g271) rfl (vrep_int.2 rfl)) ?_
            rintro v306 R309 Oc308 le310 ⟨rfl, f304, rfl, h305⟩
            replace h305 : N2 false kEdge _ f304 v33 V145 (up x140 (o239 / ((1 : Int) + (x.f_Inputs % 3))) (up (ix x140 (o239 / ((1 : Int) + (x.f_Inputs % 3)))) (o239 % ((1 : Int) + (x.f_Inputs % 3))) (⟨x139, (ix (ix x140 (o239 / ((1 : Int) + (x.f_Inputs % 3)))) (o239 % ((1 : Int) + (x.f_Inputs % 3)))).out⟩ : Edge))) := h305
            refine wo_nil ?_
            refine wg_region ?_
            refine wo_v rfl (val_move (v := (.int .i64 x139)) rfl) ?_
            have g311 := (gd_some hd1).1; replace hd1 := (gd_some hd1).2
            refine wo_v rfl (val_add rfl rfl g311) ?_
            refine wo_v rfl (val_assign (v := (.int .i64 (x139 + 1))) rfl) ?_
            refine wo_nil ?_
            exact ⟨(fun _ => rfl), ((le149.trans le241).trans le273), (by repeat (first | exact off_self | refine off_upd rfl ?_ | refine off_setl rfl ?_ | refine off_mask_sub rfl ?_)), (F138, x139 + 1, (up x140 (o239 / ((1 : Int) + (x.f_Inputs % 3))) (up (ix x140 (o239 / ((1 : Int) + (x.f_Inputs % 3)))) (o239 % ((1 : Int) + (x.f_Inputs % 3))) (⟨x139, (ix (ix x140 (o239 / ((1 : Int) + (x.f_Inputs % 3)))) (o239 % ((1 : Int) + (x.f_Inputs % 3)))).out⟩ : Edge))), f304), Nat.lt_succ_self _, ⟨rfl, trivial⟩, ⟨[], (pk 1 rfl (pk 1 rfl (pk 0 rfl (List.Perm.refl _))))⟩, hd1, (nrep_of h305), trivial⟩
      · replace hd1 := sel_f e146 hd1; clear e146
        refine wg_exit ?_
        exact ⟨(fun _ => rfl), le142, (by repeat (first | exact off_self | refine off_upd rfl ?_ | refine off_setl rfl ?_ | refine off_mask_sub rfl ?_)), (x140, f143), trivial, ⟨[], List.Perm.refl _⟩, (Option.some.inj hd1).symm, (nrep_of h144), trivial⟩
    ·
      rintro ⟨o132, f135⟩ j315 D316 R133 hD317 le134 ⟨rfl, ⟨V137, h136⟩, _⟩
      obtain rfl := hD317 rfl
      replace hd0 := bd_some hd0; obtain ⟨o318, hd1, hd0⟩ := hd0
      refine wg_meet (γ := (List (List Edge)) × Frag) true [13, 137, 138, 139, 14, 142, 143, 144, 145, 148, 149, 150, 151, 152, 153, 154, 155, 156, 157, 158, 159, 160, 161, 162, 163, 164, 165, 166, 167, 168, 169, 170, 171, 172, 173, 174, 175, 176, 146, 147, 140, 141] (fun g => []) (fun g => [box b5 [(.int .i64 0), (.int .i64 0), (.slice none 0 0)] 27, box b28 [(.int .i64 ((1 : Int) + (x.f_Inputs % 3))), (.int .i64 ((1 : Int) + (x.f_Outputs % 3))), v33] 27, g.2] ++ A) (fun g R => o318 = g.1 ∧ NRep false kEdge R g.2 v33 g.1 ∧ True) ?_ ?_
      ·
        refine wg_seq ?_
        refine wg_region ?_
        refine wo_v rfl (val_assign (v := (.int .i64 0)) rfl) ?_
        refine wo_nil ?_
        refine wg_block ?_
        refine wg_loopS (γ := Nat × Int × (List (List Edge)) × Frag) true [137, 138, 139, 14, 142, 143, 144, 145, 148, 149, 150, 151, 152, 153, 154, 155, 156, 157, 158, 159, 160, 161, 162, 163, 164, 165, 166, 167, 168, 169, 170, 171, 172, 173, 174, 175, 176, 146, 147, 140, 141, 13] (fun g => [(13, (.int .i64 g.2.1))]) (fun g => [box b5 [(.int .i64 0), (.int .i64 0), (.slice none 0 0)] 27, box b28 [(.int .i64 ((1 : Int) + (x.f_Inputs % 3))), (.int .i64 ((1 : Int) + (x.f_Outputs % 3))), v33] 27, g.2.2.2] ++ A) (fun g R => gauntletlaw06_C_Of_L5 N x g.1 g.2.1 g.2.2.1 = some o318 ∧ NRep false kEdge R g.2.2.2 v33 g.2.2.1 ∧ True) (fun g => g.1) (N, 0, o132, f135) ⟨rfl, trivial⟩ ⟨[], List.Perm.refl _⟩ ⟨hd1, (nrep_of h136), trivial⟩ (fun _ => rfl) ?_
        clear hd1
        rintro ⟨F324, x325, x326, f329⟩ j442 D443 R327 hD444 le328 ⟨hd1, ⟨V331, h330⟩, _⟩
        obtain rfl := hD444 rfl
        rcases F324 with _ | F324
        · exact none_elim hd1
        replace hd1 : gauntletlaw06_C_Of_L5 N x (F324 + 1) x325 x326 = some o318 := hd1; rw [gauntletlaw06_C_Of_L5] at hd1
        refine wg_seq ?_
        refine wg_seq ?_
        refine wg_region ?_
        refine wo_v rfl (val_move (v := (.int .i64 x325)) rfl) ?_
        refine wo_v rfl (val_move (v := (.int .i64 ((1 : Int) + (x.f_States % 6)))) rfl) ?_
        refine wo_v rfl (val_lss rfl rfl) ?_
        refine wo_nil ?_
        refine wg_cond rfl (fun e332 => ?_) (fun e332 => ?_)
        · replace hd1 := sel_t e332 hd1; clear e332
          refine wg_skip ?_
          replace hd1 := bd_some hd1; obtain ⟨o333, hd2, hd1⟩ := hd1
          refine wg_meet (γ := (List (List Edge)) × Frag) true [14, 142, 143, 144, 145, 148, 149, 150, 151, 152, 153, 154, 155, 156, 157, 158, 159, 160, 161, 162, 163, 164, 165, 166, 167, 168, 169, 170, 171, 172, 173, 174, 175, 176, 146, 147] (fun g => []) (fun g => [box b5 [(.int .i64 0), (.int .i64 0), (.slice none 0 0)] 27, box b28 [(.int .i64 ((1 : Int) + (x.f_Inputs % 3))), (.int .i64 ((1 : Int) + (x.f_Outputs % 3))), v33] 27, g.2] ++ A) (fun g R => o333 = g.1 ∧ NRep false kEdge R g.2 v33 g.1 ∧ True) ?_ ?_
          ·
            refine wg_block ?_
            refine wg_seq ?_
            refine wg_region ?_
            refine wo_v rfl (val_assign (v := (.int .i64 0)) rfl) ?_
            refine wo_nil ?_
            refine wg_block ?_
            refine wg_loopS (γ := Nat × Int × (List (List Edge)) × Frag) true [142, 143, 144, 145, 148, 149, 150, 151, 152, 153, 154, 155, 156, 157, 158, 159, 160, 161, 162, 163, 164, 165, 166, 167, 168, 169, 170, 171, 172, 173, 174, 175, 176, 146, 147, 14] (fun g => [(14, (.int .i64 g.2.1))]) (fun g => [box b5 [(.int .i64 0), (.int .i64 0), (.slice none 0 0)] 27, box b28 [(.int .i64 ((1 : Int) + (x.f_Inputs % 3))), (.int .i64 ((1 : Int) + (x.f_Outputs % 3))), v33] 27, g.2.2.2] ++ A) (fun g R => gauntletlaw06_C_Of_L6 N x x325 g.1 g.2.1 g.2.2.1 = some o333 ∧ NRep false kEdge R g.2.2.2 v33 g.2.2.1 ∧ True) (fun g => g.1) (N, 0, x326, f329) ⟨rfl, trivial⟩ ⟨[], List.Perm.refl _⟩ ⟨hd2, (nrep_of h330), trivial⟩ (fun _ => rfl) ?_
            clear hd2
            rintro ⟨F339, x340, x341, f344⟩ j435 D436 R342 hD437 le343 ⟨hd2, ⟨V346, h345⟩, _⟩
            obtain rfl := hD437 rfl
            rcases F339 with _ | F339
            · exact none_elim hd2
            replace hd2 : gauntletlaw06_C_Of_L6 N x x325 (F339 + 1) x340 x341 = some o333 := hd2; rw [gauntletlaw06_C_Of_L6] at hd2
            refine wg_seq ?_
            refine wg_seq ?_
            refine wg_region ?_
            refine wo_v rfl (val_move (v := (.int .i64 x340)) rfl) ?_
            refine wo_v rfl (val_fieldB fd27_0 rfl) ?_
            refine wo_v rfl (val_loadB (i := 1) ag3 rfl rfl rfl) ?_
            refine wo_v rfl (val_lss rfl rfl) ?_
            refine wo_nil ?_
            refine wg_cond rfl (fun e347 => ?_) (fun e347 => ?_)
            · replace hd2 := sel_t e347 hd2; clear e347
              refine wg_skip ?_
              replace hd2 := bd_some hd2; obtain ⟨o348, hd3, hd2⟩ := hd2
              refine wg_meet (γ := (List (List Edge)) × Frag) true [148, 149, 150, 151, 152, 153, 154, 155, 156, 157, 158, 159, 160, 161, 162, 163, 164, 165, 166, 167, 168, 169, 170, 171, 172, 173, 174, 175, 176] (fun g => []) (fun g => [box b5 [(.int .i64 0), (.int .i64 0), (.slice none 0 0)] 27, box b28 [(.int .i64 ((1 : Int) + (x.f_Inputs % 3))), (.int .i64 ((1 : Int) + (x.f_Outputs % 3))), v33] 27, g.2] ++ A) (fun g R => o348 = g.1 ∧ NRep false kEdge R g.2 v33 g.1 ∧ True) ?_ ?_
              ·
                refine wg_block ?_
                refine wg_seq ?_
                refine wg_region ?_
                refine wo_v rfl (val_fieldB fd27_2 rfl) ?_
                refine wo_v rfl (val_loadB (i := 1) ag25 rfl rfl rfl) ?_
                refine wo_v rfl (val_move (v := (.int .i64 x325)) rfl) ?_
                have g354 := (gd_some hd3).1; replace hd3 := (gd_some hd3).2
                refine wo_phi rfl (ph_indexN (i := x325.toNat) (sl_hdr (b := true) sl25) rfl h345 (idx_nonneg rfl g354.1) (okI_lt g354)) fun v355 R357 le358 h356 => ?_
                refine wo_phi rfl (ph_loadN (i := x325.toNat) (j := 2) (ty_hdr (b := true) ty50) (h345.mono le358) rfl rfl h356 (okI_lt g354)) fun v359 R361 le362 h360 => ?_
                obtain rfl := Eq.symm h360
                refine wo_v rfl (val_move (v := (.int .i64 x340)) rfl) ?_
                have g363 := (gd_some hd3).1; replace hd3 := (gd_some hd3).2
                refine wo_phi rfl (ph_indexNR (i := x340.toNat) (r := x325.toNat) sl50 (h345.mono (le358.trans le362)) (okI_lt g354) rfl (idx_nonneg rfl g363.1) (okI_lt g363)) fun v364 R366 le367 h365 => ?_
                refine wo_phi rfl (ph_fieldO fd49_0 rfl h365) fun v368 R370 le371 h369 => ?_
                replace h369 : OPtrF kEdge 0 (V346.getD x325.toNat default) (x341.getD x325.toNat default) v368 x340.toNat := h369
                refine wo_phi rfl (ph_exact (ph_loadNRF (i := x340.toNat) (r := x325.toNat) (j := 2) ty3 pt_Edge0 (h345.mono (((le358.trans le362).trans le367).trans le371)) (okI_lt g354) rfl rfl h369 (okI_lt g363)) (fun _ _ h => vrep_int.1 h)) fun v372 R374 le375 h373 => ?_
                obtain rfl := Eq.symm h373
                refine wo_v rfl (val_lss rfl rfl) ?_
                refine wo_nil ?_
                refine wg_cond rfl (fun e376 => ?_) (fun e376 => ?_)
                · replace hd3 := sel_t e376 hd3; clear e376
                  have g377 := (gd_some hd3).1; replace hd3 := (gd_some hd3).2
                  have g378 := (gd_some hd3).1; replace hd3 := (gd_some hd3).2
                  have g379 := (gd_some hd3).1; replace hd3 := (gd_some hd3).2
                  replace hd3 := bd_some hd3; obtain ⟨y380, c381, hd3⟩ := hd3
                  have g382 := (gd_some hd3).1; replace hd3 := (gd_some hd3).2
                  have g383 := (gd_some hd3).1; replace hd3 := (gd_some hd3).2
                  refine wg_drawn 19 [] [phX (.pointer (some ⟨b28, 2, none⟩)), phX v33, phX (.int .i64 x325), (fun u _ => OPtr tHdr v33 V346 u x325.toNat), phX (V346.getD x325.toNat default), phX (.int .i64 x340), phP (tSl false (tInt .u16)) x.f_Edges, phR (tSl false (tInt .u16)) x.f_Edges, phX (.int .i64 x325), phX (.pointer (some ⟨b28, 0, none⟩)), phX (.int .i64 ((1 : Int) + (x.f_Inputs % 3))), phX (.int .i64 (x325 * ((1 : Int) + (x.f_Inputs % 3)))), phX (.int .i64 x340), phX (.int .i64 ((x325 * ((1 : Int) + (x.f_Inputs % 3))) + x340)), phX (.int .i64 y380), phX (.int .i64 ((1 : Int) + (x.f_States % 6))), phX (.int .i64 (y380 % ((1 : Int) + (x.f_States % 6)))), (fun u _ => OPtr kEdge (V346.getD x325.toNat default) (x341.getD x325.toNat default) u x340.toNat), (fun u _ => OPtrF kEdge 0 (V346.getD x325.toNat default) (x341.getD x325.toNat default) u x340.toNat)] mixed (by kernel_rfl) (monoOk_of ⟨mono_x, mono_x, mono_x, (fun _ _ _ _ h => h), mono_x, mono_x, mono_p, mono_r, mono_x, mono_x, mono_x, mono_x, mono_x, mono_x, mono_x, mono_x, mono_x, (fun _ _ _ _ h => h), (fun _ _ _ _ h => h), trivial⟩) ⟨?_, ?_, ?_, ?_, ?_, ?_, ?_, ?_, ?_, ?_, ?_, ?_, ?_, ?_, ?_, ?_, ?_, ?_, ?_, trivial⟩ fun R384 le385 => ?_
                  · intro l R0q hle ha hd
                    have a4 : l 4 = (.pointer (some ⟨b28, 0, none⟩)) := ha 4 rfl
                    exact gstep_plain rfl rfl rfl (ph_val (val_fieldB fd27_2 a4))
                  · intro l R1q hle ha hd
                    obtain ⟨d0, _⟩ := hd
                    have f158 : l 158 = (.pointer (some ⟨b28, 2, none⟩)) := d0 rfl
                    exact gstep_plain rfl rfl rfl (ph_val (val_loadB (i := 1) ag25 f158 rfl rfl))
                  · intro l R2q hle ha hd
                    have a13 : l 13 = (.int .i64 x325) := ha 13 rfl
                    exact gstep_plain rfl rfl rfl (ph_val (val_move a13))
                  · intro l R3q hle ha hd
                    obtain ⟨d0, d1, _⟩ := hd
                    have f159 : l 159 = v33 := d0 rfl
                    have f160 : l 160 = (.int .i64 x325) := d1 rfl
                    exact gstep_plain rfl rfl rfl (ph_indexN (i := x325.toNat) (sl_hdr (b := true) sl25) f159 ((h345.mono ((((le358.trans le362).trans le367).trans le371).trans le375)).mono hle) (idx_nonneg f160 g377.1) (okI_lt g377))
                  · intro l R4q hle ha hd
                    obtain ⟨d0, _⟩ := hd
                    have f161 : (fun u _ => OPtr tHdr v33 V346 u x325.toNat) (l 161) R4q := d0 rfl
                    exact gstep_plain rfl rfl rfl (ph_loadN (i := x325.toNat) (j := 2) (ty_hdr (b := true) ty50) ((h345.mono ((((le358.trans le362).trans le367).trans le371).trans le375)).mono hle) rfl rfl f161 (okI_lt g377))
                  · intro l R5q hle ha hd
                    have a14 : l 14 = (.int .i64 x340) := ha 14 rfl
                    exact gstep_plain rfl rfl rfl (ph_val (val_move a14))
                  · intro l R6q hle ha hd
                    have a1 : l 1 = v1 := ha 1 rfl
                    exact gstep_plain rfl rfl rfl (ph_fieldR fd77_4 pt_Sgauntletlaw06_C4 a1 ((h2.mono ((((((((le32.trans le134).trans le328).trans le343).trans le358).trans le362).trans le367).trans le371).trans le375)).mono hle))
                  · intro l R7q hle ha hd
                    obtain ⟨d0, _⟩ := hd
                    have f164 : phP (tSl false (tInt .u16)) x.f_Edges (l 164) R7q := d0 rfl
                    exact gstep_plain rfl rfl rfl (ph_loadR ty22 rfl f164)
                  · intro l R8q hle ha hd
                    have a13 : l 13 = (.int .i64 x325) := ha 13 rfl
                    exact gstep_plain rfl rfl rfl (ph_val (val_move a13))
                  · intro l R9q hle ha hd
                    have a4 : l 4 = (.pointer (some ⟨b28, 0, none⟩)) := ha 4 rfl
                    exact gstep_plain rfl rfl rfl (ph_val (val_fieldB fd27_0 a4))
                  · intro l R10q hle ha hd
                    obtain ⟨d0, _⟩ := hd
                    have f167 : l 167 = (.pointer (some ⟨b28, 0, none⟩)) := d0 rfl
                    exact gstep_plain rfl rfl rfl (ph_val (val_loadB (i := 1) ag3 f167 rfl rfl))
                  · intro l R11q hle ha hd
                    obtain ⟨d0, d1, _⟩ := hd
                    have f166 : l 166 = (.int .i64 x325) := d0 rfl
                    have f168 : l 168 = (.int .i64 ((1 : Int) + (x.f_Inputs % 3))) := d1 rfl
                    exact gstep_plain rfl rfl rfl (ph_val (val_mul f166 f168 g378))
                  · intro l R12q hle ha hd
                    have a14 : l 14 = (.int .i64 x340) := ha 14 rfl
                    exact gstep_plain rfl rfl rfl (ph_val (val_move a14))
                  · intro l R13q hle ha hd
                    obtain ⟨d0, d1, _⟩ := hd
                    have f169 : l 169 = (.int .i64 (x325 * ((1 : Int) + (x.f_Inputs % 3)))) := d0 rfl
                    have f170 : l 170 = (.int .i64 x340) := d1 rfl
                    exact gstep_plain rfl rfl rfl (ph_val (val_add f169 f170 g379))
                  · intro l R14q hle ha hd
                    obtain ⟨d0, d1, _⟩ := hd
                    have f165 : phR (tSl false (tInt .u16)) x.f_Edges (l 165) R14q := d0 rfl
                    have f171 : l 171 = (.int .i64 ((x325 * ((1 : Int) + (x.f_Inputs % 3))) + x340)) := d1 rfl
                    exact gstep_plain rfl rfl rfl (ph_callP (vs := [(l 165), (.int .i64 ((x325 * ((1 : Int) + (x.f_Inputs % 3))) + x340))]) en53 (by simp only [List.map, ev, f171] <;> rfl) (c_gauntletlaw06_number f165 c381) (fun _ _ h => h))
                  · intro l R15q hle ha hd
                    have a3 : l 3 = (.int .i64 ((1 : Int) + (x.f_States % 6))) := ha 3 rfl
                    exact gstep_plain rfl rfl rfl (ph_val (val_move a3))
                  · intro l R16q hle ha hd
                    obtain ⟨d0, d1, _⟩ := hd
                    have f172 : l 172 = (.int .i64 y380) := d0 rfl
                    have f173 : l 173 = (.int .i64 ((1 : Int) + (x.f_States % 6))) := d1 rfl
                    exact gstep_plain rfl rfl rfl (ph_val (val_rem0 f172 f173 g382))
                  · intro l R17q hle ha hd
                    obtain ⟨d0, d1, d2, d3, d4, d5, d6, d7, d8, d9, d10, d11, d12, d13, d14, d15, d16, d17, d18, _⟩ := hd
                    have f162 : l 162 = (V346.getD x325.toNat default) := d0 rfl
                    have f163 : l 163 = (.int .i64 x340) := d1 rfl
                    exact gstep_plain rfl rfl rfl (ph_indexNR (i := x340.toNat) (r := x325.toNat) sl50 ((h345.mono ((((le358.trans le362).trans le367).trans le371).trans le375)).mono hle) (okI_lt g377) f162 (idx_nonneg f163 g383.1) (okI_lt g383))
                  · intro l R18q hle ha hd
                    obtain ⟨d0, d1, d2, d3, d4, d5, d6, d7, d8, d9, d10, d11, d12, d13, d14, d15, d16, d17, _⟩ := hd
                    have f175 : (fun u _ => OPtr kEdge (V346.getD x325.toNat default) (x341.getD x325.toNat default) u x340.toNat) (l 175) R18q := d0 rfl
                    exact gstep_plain rfl rfl rfl (ph_fieldO fd49_0 rfl f175)
                  intro v386 h387
                  intro v388 h389
                  intro v390 h391
                  intro v392 h393
                  intro v394 h395
                  intro v396 h397
                  intro v398 h399
                  intro v400 h401
                  intro v402 h403
                  intro v404 h405
                  intro v406 h407
                  intro v408 h409
                  intro v410 h411
                  intro v412 h413
                  intro v414 h415
                  intro v416 h417
                  intro v418 h419
                  intro v420 h421
                  intro v422 h423
                  obtain rfl := Eq.symm h387
                  obtain rfl := Eq.symm h389
                  obtain rfl := Eq.symm h391
                  obtain rfl := Eq.symm h395
                  obtain rfl := Eq.symm h397
                  obtain rfl := Eq.symm h403
                  obtain rfl := Eq.symm h405
                  obtain rfl := Eq.symm h407
                  obtain rfl := Eq.symm h409
                  obtain rfl := Eq.symm h411
                  obtain rfl := Eq.symm h413
                  obtain rfl := Eq.symm h415
                  obtain rfl := Eq.symm h417
                  obtain rfl := Eq.symm h419
                  replace h423 : OPtrF kEdge 0 (V346.getD x325.toNat default) (x341.getD x325.toNat default) v422 x340.toNat := h423
                  refine wo_turn0 (Oc := [f344]) (Or := [box b5 [(.int .i64 0), (.int .i64 0), (.slice none 0 0)] 27, box b28 [(.int .i64 ((1 : Int) + (x.f_Inputs % 3))), (.int .i64 ((1 : Int) + (x.f_Outputs % 3))), v33] 27] ++ A) (pk 2 rfl (pk 0 rfl (pk 0 rfl (List.Perm.refl _)))) (eff_storeNF (i := x340.toNat) (r := x325.toNat) (u := v422) ps_Edge0 ty3 (h345.mono (((((le358.trans le362).trans le367).trans le371).trans le375).trans le385)) (okI_lt g377) rfl h423 (okI_lt g383) rfl (vrep_int.2 rfl)) ?_
                  rintro v426 R429 Oc428 le430 ⟨rfl, f424, rfl, h425⟩
                  replace h425 : N2 false kEdge _ f424 v33 V346 (up x341 x325 (up (ix x341 x325) x340 (⟨y380 % ((1 : Int) + (x.f_States % 6)), (ix (ix x341 x325) x340).out⟩ : Edge))) := h425
                  refine wo_nil ?_
                  exact ⟨(fun _ => rfl), (((((le358.trans le362).trans le367).trans le371).trans le375).trans le385), (by repeat (first | exact off_self | refine off_upd rfl ?_ | refine off_setl rfl ?_ | refine off_mask_sub rfl ?_)), ((up x341 x325 (up (ix x341 x325) x340 (⟨y380 % ((1 : Int) + (x.f_States % 6)), (ix (ix x341 x325) x340).out⟩ : Edge))), f424), trivial, ⟨[], (pk 1 rfl (pk 1 rfl (pk 0 rfl (List.Perm.refl _))))⟩, (Option.some.inj hd3).symm, (nrep_of h425), trivial⟩
                · replace hd3 := sel_f e376 hd3; clear e376
                  refine wg_skip ?_
                  exact ⟨(fun _ => rfl), ((((le358.trans le362).trans le367).trans le371).trans le375), (by repeat (first | exact off_self | refine off_upd rfl ?_ | refine off_setl rfl ?_ | refine off_mask_sub rfl ?_)), (x341, f344), trivial, ⟨[], List.Perm.refl _⟩, (Option.some.inj hd3).symm, (nrep_of (h345.mono ((((le358.trans le362).trans le367).trans le371).trans le375))), trivial⟩
              ·
                rintro ⟨o348, f351⟩ j431 D432 R349 hD433 le350 ⟨rfl, ⟨V353, h352⟩, _⟩
                obtain rfl := hD433 rfl
                refine wg_region ?_
                refine wo_v rfl (val_move (v := (.int .i64 x340)) rfl) ?_
                have g434 := (gd_some hd2).1; replace hd2 := (gd_some hd2).2
                refine wo_v rfl (val_add rfl rfl g434) ?_
                refine wo_v rfl (val_assign (v := (.int .i64 (x340 + 1))) rfl) ?_
                refine wo_nil ?_
                exact ⟨(fun _ => rfl), le350, (by repeat (first | exact off_self | refine off_upd rfl ?_ | refine off_setl rfl ?_ | refine off_mask_sub rfl ?_)), (F339, x340 + 1, o348, f351), Nat.lt_succ_self _, ⟨rfl, trivial⟩, ⟨[], List.Perm.refl _⟩, hd2, (nrep_of h352), trivial⟩
            · replace hd2 := sel_f e347 hd2; clear e347
              refine wg_exit ?_
              exact ⟨(fun _ => rfl), le343, (by repeat (first | exact off_self | refine off_upd rfl ?_ | refine off_setl rfl ?_ | refine off_mask_sub rfl ?_)), (x341, f344), trivial, ⟨[], List.Perm.refl _⟩, (Option.some.inj hd2).symm, (nrep_of h345), trivial⟩
          ·
            rintro ⟨o333, f336⟩ j438 D439 R334 hD440 le335 ⟨rfl, ⟨V338, h337⟩, _⟩
            obtain rfl := hD440 rfl
            refine wg_region ?_
            refine wo_v rfl (val_move (v := (.int .i64 x325)) rfl) ?_
            have g441 := (gd_some hd1).1; replace hd1 := (gd_some hd1).2
            refine wo_v rfl (val_add rfl rfl g441) ?_
            refine wo_v rfl (val_assign (v := (.int .i64 (x325 + 1))) rfl) ?_
            refine wo_nil ?_
            exact ⟨(fun _ => rfl), le335, (by repeat (first | exact off_self | refine off_upd rfl ?_ | refine off_setl rfl ?_ | refine off_mask_sub rfl ?_)), (F324, x325 + 1, o333, f336), Nat.lt_succ_self _, ⟨rfl, trivial⟩, ⟨[], List.Perm.refl _⟩, hd1, (nrep_of h337), trivial⟩
        · replace hd1 := sel_f e332 hd1; clear e332
          refine wg_exit ?_
          exact ⟨(fun _ => rfl), le328, (by repeat (first | exact off_self | refine off_upd rfl ?_ | refine off_setl rfl ?_ | refine off_mask_sub rfl ?_)), (x326, f329), trivial, ⟨[], List.Perm.refl _⟩, (Option.some.inj hd1).symm, (nrep_of h330), trivial⟩
      ·
        rintro ⟨o318, f321⟩ j445 D446 R319 hD447 le320 ⟨rfl, ⟨V323, h322⟩, _⟩
        obtain rfl := hD447 rfl
        refine wg_seq ?_
        refine wg_region ?_
        refine wo_v rfl (val_loadBA (i := 1) ag27 sz27 rfl rfl rfl rfl) ?_
        refine wo_store (i := 0) (vs := [(.int .i64 ((1 : Int) + (x.f_Inputs % 3))), (.int .i64 ((1 : Int) + (x.f_Outputs % 3))), v33]) sz27 rfl rfl rfl rfl rfl rfl (one_cons rfl (one_cons rfl (one_cons (n2_one h322) one_nil))) ?_
        refine wo_nil ?_
        refine wg_freezeN (i := 2) rfl (nrep_of h322) fun R448 le449 h450 => ?_
        have h451 : VRep (tSl false (tSl false kEdge)) R448 v33 o318 := (sl_f h450)
        refine wg_ret ?_
        obtain rfl := Option.some.inj hd0
        refine body_end (D := []) (J := [box b5 [(.int .i64 ((1 : Int) + (x.f_Inputs % 3))), (.int .i64 ((1 : Int) + (x.f_Outputs % 3))), v33] 27, box b28 [(.int .i64 ((1 : Int) + (x.f_Inputs % 3))), (.int .i64 ((1 : Int) + (x.f_Outputs % 3))), v33] 27]) (rs := [.cell 2 27]) (vs := [(.agg #[(.int .i64 ((1 : Int) + (x.f_Inputs % 3))), (.int .i64 ((1 : Int) + (x.f_Outputs % 3))), v33])]) ((((le4.trans le32).trans le134).trans le320).trans le449) rfl rfl ⟨⟨_, rfl, fun w hh => run_cellA (i := 0) hh rfl rfl ag27 sz27 rfl rfl⟩, trivial⟩ ?_
        exact ⟨rfl, (⟨_, ⟨_, _, rfl, rfl, ⟨_, _, rfl, rfl, (rep_one rfl h451)⟩⟩, rfl⟩ : VRep (kMach false false) _ _ (⟨(1 : Int) + (x.f_Inputs % 3), (1 : Int) + (x.f_Outputs % 3), o318⟩ : Mach))⟩
theorem en34 : Enters Try.prog 34 := enters_of Try.func34 rfl (by kernel_rfl)
theorem c_gauntletref04_Defined {N : Nat} {R : RH} {m : Mach} {v_m : Value} (h_m : VRep (kMach false false) R v_m m) {r : Int} (hd0 : gauntletref04_Defined N m = some r) : CallP Try.prog 54 #[v_m] R (fun v R' => v = (.int .i64 r)) := by
  refine callP_of_wg (args := [v_m]) Try.func54 rfl rfl fun A => ?_
  rw [gauntletref04_Defined] at hd0
  refine wg_seq ?_
  refine wg_region ?_
  refine wo_boxR (T := (kMach false false)) rfl rfl h_m fun v1 R3 le4 h2 => ?_
  refine wo_v rfl (val_assign (v := (.int .i64 0)) rfl) ?_
  refine wo_nil ?_
  refine wg_seq ?_
  refine wg_region ?_
  refine wo_v rfl (val_assign (v := (.int .i64 0)) rfl) ?_
  refine wo_nil ?_
  replace hd0 := bd_some hd0; obtain ⟨o5, hd1, hd0⟩ := hd0
  refine wg_meet (γ := Int) true [4, 6, 7, 8, 9, 10, 5, 13, 14, 15, 16, 19, 20, 21, 22, 23, 24, 25, 26, 27, 28, 29, 30, 3, 17, 18, 11, 12] (fun g => [(3, (.int .i64 g))]) (fun g => [] ++ A) (fun g R => o5 = g ∧ True) ?_ ?_
  ·
    refine wg_seq ?_
    refine wg_region ?_
    refine wo_v rfl (val_assign (v := (.int .i64 0)) rfl) ?_
    refine wo_nil ?_
    refine wg_block ?_
    refine wg_loopS (γ := Nat × Int × Int) true [6, 7, 8, 9, 10, 5, 13, 14, 15, 16, 19, 20, 21, 22, 23, 24, 25, 26, 27, 28, 29, 30, 3, 17, 18, 11, 12, 4] (fun g => [(3, (.int .i64 g.2.1)), (4, (.int .i64 g.2.2))]) (fun g => [] ++ A) (fun g R => gauntletref04_Defined_L1 N m g.1 g.2.1 g.2.2 = some o5 ∧ True) (fun g => g.1) (N, 0, 0) ⟨rfl, rfl, trivial⟩ ⟨[], List.Perm.refl _⟩ ⟨hd1, trivial⟩ (fun _ => rfl) ?_
    clear hd1
    rintro ⟨F8, x9, x10⟩ j63 D64 R11 hD65 le12 ⟨hd1, _⟩
    obtain rfl := hD65 rfl
    rcases F8 with _ | F8
    · exact none_elim hd1
    replace hd1 : gauntletref04_Defined_L1 N m (F8 + 1) x9 x10 = some o5 := hd1; rw [gauntletref04_Defined_L1] at hd1
    refine wg_seq ?_
    refine wg_seq ?_
    refine wg_region ?_
    refine wo_v rfl (val_move (v := (.int .i64 x10)) rfl) ?_
    refine wo_fieldR rfl fd27_2 pt_Mach2 rfl (h2.mono le12) fun v13 h14 => ?_
    refine wo_loadR rfl ty25 rfl h14 fun v15 h16 => ?_
    refine wo_v rfl (val_lenR rfl Try.underlying25 rfl (sl_s h16)) ?_
    refine wo_v rfl (val_lss rfl rfl) ?_
    refine wo_nil ?_
    refine wg_cond rfl (fun e17 => ?_) (fun e17 => ?_)
    · replace hd1 := sel_t e17 hd1; clear e17
      refine wg_skip ?_
      replace hd1 := bd_some hd1; obtain ⟨o18, hd2, hd1⟩ := hd1
      refine wg_meet (γ := Int) true [5, 13, 14, 15, 16, 19, 20, 21, 22, 23, 24, 25, 26, 27, 28, 29, 30, 3, 17, 18] (fun g => [(3, (.int .i64 g))]) (fun g => [] ++ A) (fun g R => o18 = g ∧ True) ?_ ?_
      ·
        refine wg_block ?_
        refine wg_seq ?_
        refine wg_region ?_
        refine wo_v rfl (val_assign (v := (.int .i64 0)) rfl) ?_
        refine wo_nil ?_
        refine wg_block ?_
        refine wg_loopS (γ := Nat × Int × Int) true [13, 14, 15, 16, 19, 20, 21, 22, 23, 24, 25, 26, 27, 28, 29, 30, 3, 17, 18, 5] (fun g => [(3, (.int .i64 g.2.1)), (5, (.int .i64 g.2.2))]) (fun g => [] ++ A) (fun g R => gauntletref04_Defined_L2 N m x10 g.1 g.2.1 g.2.2 = some o18 ∧ True) (fun g => g.1) (N, x9, 0) ⟨rfl, rfl, trivial⟩ ⟨[], List.Perm.refl _⟩ ⟨hd2, trivial⟩ (fun _ => rfl) ?_
        clear hd2
        rintro ⟨F21, x22, x23⟩ j56 D57 R24 hD58 le25 ⟨hd2, _⟩
        obtain rfl := hD58 rfl
        rcases F21 with _ | F21
        · exact none_elim hd2
        replace hd2 : gauntletref04_Defined_L2 N m x10 (F21 + 1) x22 x23 = some o18 := hd2; rw [gauntletref04_Defined_L2] at hd2
        refine wg_seq ?_
        refine wg_seq ?_
        refine wg_region ?_
        refine wo_v rfl (val_move (v := (.int .i64 x23)) rfl) ?_
        refine wo_fieldR rfl fd27_0 pt_Mach0 rfl (h2.mono (le12.trans le25)) fun v26 h27 => ?_
        refine wo_loadR rfl ty3 rfl h27 fun v28 h29 => ?_
        obtain rfl := vrep_int.1 h29
        refine wo_v rfl (val_lss rfl rfl) ?_
        refine wo_nil ?_
        refine wg_cond rfl (fun e30 => ?_) (fun e30 => ?_)
        · replace hd2 := sel_t e30 hd2; clear e30
          refine wg_skip ?_
          replace hd2 := bd_some hd2; obtain ⟨o31, hd3, hd2⟩ := hd2
          refine wg_meet (γ := Int) true [19, 20, 21, 22, 23, 24, 25, 26, 27, 28, 29, 30, 3] (fun g => [(3, (.int .i64 g))]) (fun g => [] ++ A) (fun g R => o31 = g ∧ True) ?_ ?_
          ·
            refine wg_block ?_
            refine wg_seq ?_
            refine wg_region ?_
            refine wo_fieldR rfl fd27_2 pt_Mach2 rfl (h2.mono (le12.trans le25)) fun v34 h35 => ?_
            refine wo_loadR rfl ty25 rfl h35 fun v36 h37 => ?_
            refine wo_v rfl (val_move (v := (.int .i64 x10)) rfl) ?_
            have g38 := (gd_some hd3).1; replace hd3 := (gd_some hd3).2
            refine wo_indexR (i := x10.toNat) rfl sl25 rfl (sl_s h37) (idx_nonneg rfl g38.1) (okI_lt g38) fun v39 h40 => ?_
            refine wo_loadR rfl ty50 rfl h40 fun v41 h42 => ?_
            refine wo_v rfl (val_move (v := (.int .i64 x23)) rfl) ?_
            have g43 := (gd_some hd3).1; replace hd3 := (gd_some hd3).2
            refine wo_indexR (i := x23.toNat) rfl sl50 rfl (sl_s h42) (idx_nonneg rfl g43.1) (okI_lt g43) fun v44 h45 => ?_
            refine wo_fieldR rfl fd49_0 pt_Edge0 rfl h45 fun v46 h47 => ?_
            refine wo_loadR rfl ty3 rfl h47 fun v48 h49 => ?_
            obtain rfl := vrep_int.1 h49
            refine wo_v rfl (val_geq rfl rfl) ?_
            refine wo_nil ?_
            refine wg_cond rfl (fun e50 => ?_) (fun e50 => ?_)
            · replace hd3 := sel_t e50 hd3; clear e50
              refine wg_region ?_
              refine wo_v rfl (val_move (v := (.int .i64 x22)) rfl) ?_
              have g51 := (gd_some hd3).1; replace hd3 := (gd_some hd3).2
              refine wo_v rfl (val_add rfl rfl g51) ?_
              refine wo_v rfl (val_assign (v := (.int .i64 (x22 + 1))) rfl) ?_
              refine wo_nil ?_
              exact ⟨(fun _ => rfl), (RH.le.refl _), (by repeat (first | exact off_self | refine off_upd rfl ?_ | refine off_setl rfl ?_ | refine off_mask_sub rfl ?_)), x22 + 1, ⟨rfl, trivial⟩, ⟨[], List.Perm.refl _⟩, (Option.some.inj hd3).symm, trivial⟩
            · replace hd3 := sel_f e50 hd3; clear e50
              refine wg_skip ?_
              exact ⟨(fun _ => rfl), (RH.le.refl _), (by repeat (first | exact off_self | refine off_upd rfl ?_ | refine off_setl rfl ?_ | refine off_mask_sub rfl ?_)), x22, ⟨rfl, trivial⟩, ⟨[], List.Perm.refl _⟩, (Option.some.inj hd3).symm, trivial⟩
          ·
            rintro o31 j52 D53 R32 hD54 le33 ⟨rfl, _⟩
            obtain rfl := hD54 rfl
            refine wg_region ?_
            refine wo_v rfl (val_move (v := (.int .i64 x23)) rfl) ?_
            have g55 := (gd_some hd2).1; replace hd2 := (gd_some hd2).2
            refine wo_v rfl (val_add rfl rfl g55) ?_
            refine wo_v rfl (val_assign (v := (.int .i64 (x23 + 1))) rfl) ?_
            refine wo_nil ?_
            exact ⟨(fun _ => rfl), le33, (by repeat (first | exact off_self | refine off_upd rfl ?_ | refine off_setl rfl ?_ | refine off_mask_sub rfl ?_)), (F21, o31, x23 + 1), Nat.lt_succ_self _, ⟨rfl, rfl, trivial⟩, ⟨[], List.Perm.refl _⟩, hd2, trivial⟩
        · replace hd2 := sel_f e30 hd2; clear e30
          refine wg_exit ?_
          exact ⟨(fun _ => rfl), le25, (by repeat (first | exact off_self | refine off_upd rfl ?_ | refine off_setl rfl ?_ | refine off_mask_sub rfl ?_)), x22, ⟨rfl, trivial⟩, ⟨[], List.Perm.refl _⟩, (Option.some.inj hd2).symm, trivial⟩
      ·
        rintro o18 j59 D60 R19 hD61 le20 ⟨rfl, _⟩
        obtain rfl := hD61 rfl
        refine wg_region ?_
        refine wo_v rfl (val_move (v := (.int .i64 x10)) rfl) ?_
        have g62 := (gd_some hd1).1; replace hd1 := (gd_some hd1).2
        refine wo_v rfl (val_add rfl rfl g62) ?_
        refine wo_v rfl (val_assign (v := (.int .i64 (x10 + 1))) rfl) ?_
        refine wo_nil ?_
        exact ⟨(fun _ => rfl), le20, (by repeat (first | exact off_self | refine off_upd rfl ?_ | refine off_setl rfl ?_ | refine off_mask_sub rfl ?_)), (F8, o18, x10 + 1), Nat.lt_succ_self _, ⟨rfl, rfl, trivial⟩, ⟨[], List.Perm.refl _⟩, hd1, trivial⟩
    · replace hd1 := sel_f e17 hd1; clear e17
      refine wg_exit ?_
      exact ⟨(fun _ => rfl), le12, (by repeat (first | exact off_self | refine off_upd rfl ?_ | refine off_setl rfl ?_ | refine off_mask_sub rfl ?_)), x9, ⟨rfl, trivial⟩, ⟨[], List.Perm.refl _⟩, (Option.some.inj hd1).symm, trivial⟩
  ·
    rintro o5 j66 D67 R6 hD68 le7 ⟨rfl, _⟩
    obtain rfl := hD68 rfl
    refine wg_seq ?_
    refine wg_region ?_
    refine wo_v rfl (val_move (v := (.int .i64 o5)) rfl) ?_
    refine wo_v rfl (val_assign (v := (.int .i64 o5)) rfl) ?_
    refine wo_nil ?_
    refine wg_ret ?_
    obtain rfl := Option.some.inj hd0
    refine body_end (D := []) (J := []) (rs := [.tmp 2]) (vs := [(.int .i64 o5)]) (le4.trans le7) rfl rfl ⟨rfl, trivial⟩ ?_
    exact ⟨rfl, rfl⟩
theorem en54 : Enters Try.prog 54 := enters_of Try.func54 rfl (by kernel_rfl)
theorem c_gauntletref04_Complete {N : Nat} {R : RH} {m : Mach} {v_m : Value} (h_m : VRep (kMach false false) R v_m m) {r : Bool} (hd0 : gauntletref04_Complete N m = some r) : CallP Try.prog 35 #[v_m] R (fun v R' => v = (.bool r)) := by
  refine callP_of_wg (args := [v_m]) Try.func35 rfl rfl fun A => ?_
  rw [gauntletref04_Complete] at hd0
  refine wg_seq ?_
  refine wg_region ?_
  refine wo_boxR (T := (kMach false false)) rfl rfl h_m fun v1 R3 le4 h2 => ?_
  refine wo_v rfl (val_assign (v := (.bool false)) rfl) ?_
  refine wo_nil ?_
  refine wg_seq ?_
  replace hd0 := bd_some hd0; obtain ⟨y5, c6, hd0⟩ := hd0
  have g7 := (gd_some hd0).1; replace hd0 := (gd_some hd0).2
  refine wg_drawn 10 [] [phR (kMach false false) m, phX (.int .i64 y5), phP (tSl false (tSl false kEdge)) m.rows, phR (tSl false (tSl false kEdge)) m.rows, phX (.int .i64 (↑m.rows.length : Int)), phP (tInt .i64) m.inputs, phX (.int .i64 m.inputs), phX (.int .i64 ((↑m.rows.length : Int) * m.inputs)), phX (.bool (decide (y5 = ((↑m.rows.length : Int) * m.inputs)))), phX (.bool (decide (y5 = ((↑m.rows.length : Int) * m.inputs))))] mixed (by kernel_rfl) (monoOk_of ⟨mono_r, mono_x, mono_p, mono_r, mono_x, mono_p, mono_x, mono_x, mono_x, mono_x, trivial⟩) ⟨?_, ?_, ?_, ?_, ?_, ?_, ?_, ?_, ?_, ?_, trivial⟩ fun R8 le9 => ?_
  · intro l R0q hle ha hd
    have a1 : l 1 = v1 := ha 1 rfl
    exact gstep_plain rfl rfl rfl (ph_loadR ty27 a1 (h2.mono hle))
  · intro l R1q hle ha hd
    obtain ⟨d0, _⟩ := hd
    have f3 : phR (kMach false false) m (l 3) R1q := d0 rfl
    exact gstep_plain rfl rfl rfl (ph_callP (vs := [(l 3)]) en54 rfl (c_gauntletref04_Defined f3 c6) (fun _ _ h => h))
  · intro l R2q hle ha hd
    have a1 : l 1 = v1 := ha 1 rfl
    exact gstep_plain rfl rfl rfl (ph_fieldR fd27_2 pt_Mach2 a1 (h2.mono hle))
  · intro l R3q hle ha hd
    obtain ⟨d0, _⟩ := hd
    have f5 : phP (tSl false (tSl false kEdge)) m.rows (l 5) R3q := d0 rfl
    exact gstep_plain rfl rfl rfl (ph_loadR ty25 rfl f5)
  · intro l R4q hle ha hd
    obtain ⟨d0, _⟩ := hd
    have f6 : phR (tSl false (tSl false kEdge)) m.rows (l 6) R4q := d0 rfl
    exact gstep_plain rfl rfl rfl (ph_val (val_lenR rfl Try.underlying25 rfl (sl_s f6)))
  · intro l R5q hle ha hd
    have a1 : l 1 = v1 := ha 1 rfl
    exact gstep_plain rfl rfl rfl (ph_fieldR fd27_0 pt_Mach0 a1 (h2.mono hle))
  · intro l R6q hle ha hd
    obtain ⟨d0, _⟩ := hd
    have f8 : phP (tInt .i64) m.inputs (l 8) R6q := d0 rfl
    exact gstep_plain rfl rfl rfl (ph_exact (ph_loadR ty3 rfl f8) (fun _ _ h => vrep_int.1 h))
  · intro l R7q hle ha hd
    obtain ⟨d0, d1, _⟩ := hd
    have f7 : l 7 = (.int .i64 (↑m.rows.length : Int)) := d0 rfl
    have f9 : l 9 = (.int .i64 m.inputs) := d1 rfl
    exact gstep_plain rfl rfl rfl (ph_val (val_mul f7 f9 g7))
  · intro l R8q hle ha hd
    obtain ⟨d0, d1, _⟩ := hd
    have f4 : l 4 = (.int .i64 y5) := d0 rfl
    have f10 : l 10 = (.int .i64 ((↑m.rows.length : Int) * m.inputs)) := d1 rfl
    exact gstep_plain rfl rfl rfl (ph_val (val_eql f4 f10))
  · intro l R9q hle ha hd
    obtain ⟨d0, d1, d2, d3, d4, d5, d6, d7, d8, d9, d10, _⟩ := hd
    have f11 : l 11 = (.bool (decide (y5 = ((↑m.rows.length : Int) * m.inputs)))) := d0 rfl
    exact gstep_plain rfl rfl rfl (ph_val (val_assign f11))
  intro v10 h11
  intro v12 h13
  intro v14 h15
  intro v16 h17
  intro v18 h19
  intro v20 h21
  intro v22 h23
  intro v24 h25
  intro v26 h27
  intro v28 h29
  obtain rfl := Eq.symm h13
  obtain rfl := Eq.symm h19
  obtain rfl := Eq.symm h23
  obtain rfl := Eq.symm h25
  obtain rfl := Eq.symm h27
  obtain rfl := Eq.symm h29
  refine wo_nil ?_
  refine wg_ret ?_
  obtain rfl := Option.some.inj hd0
  refine body_end (D := []) (J := []) (rs := [.tmp 2]) (vs := [(.bool (decide (y5 = ((↑m.rows.length : Int) * m.inputs))))]) (le4.trans le9) rfl rfl ⟨rfl, trivial⟩ ?_
  exact ⟨rfl, rfl⟩
theorem en35 : Enters Try.prog 35 := enters_of Try.func35 rfl (by kernel_rfl)
theorem c_gauntletlaw06_WalksC {N : Nat} {R : RH} {x : Sgauntletlaw06_C} {v_x : Value} (h_x : VRep (kSgauntletlaw06_C false false) R v_x x) {r : Bool} (hd0 : gauntletlaw06_WalksC N x = some r) : CallP Try.prog 9 #[v_x] R (fun v R' => v = (.bool r)) := by
  refine callP_of_wg (args := [v_x]) Try.func9 rfl rfl fun A => ?_
  rw [gauntletlaw06_WalksC] at hd0
  refine wg_seq ?_
  refine wg_region ?_
  refine wo_boxR (T := (kSgauntletlaw06_C false false)) rfl rfl h_x fun v1 R3 le4 h2 => ?_
  refine wo_v rfl (val_assign (v := (.bool false)) rfl) ?_
  refine wo_nil ?_
  refine wg_seq ?_
  refine wg_region ?_
  refine wo_loadR rfl ty77 rfl h2 fun v5 h6 => ?_
  replace hd0 := bd_some hd0; obtain ⟨y7, c8, hd0⟩ := hd0
  refine wo_callP rfl en34 rfl (c_gauntletlaw06_C_Of h6 c8) fun v9 R11 le12 h10 => ?_
  refine wo_alloc rfl za27 fun b13 => ?_
  obtain ⟨v15, rfl, h16⟩ := cases_Mach h10
  refine wo_store (i := 0) (vs := [(.int .i64 y7.inputs), (.int .i64 y7.outputs), v15]) sz27 rfl rfl rfl rfl rfl rfl (one_cons rfl (one_cons rfl (one_cons (sl_one h16) one_nil))) ?_
  refine wo_nil ?_
  refine wg_seq ?_
  refine wg_region ?_
  refine wo_v rfl (val_loadBA (i := 0) ag27 sz27 rfl rfl rfl rfl) ?_
  replace hd0 := bd_some hd0; obtain ⟨y17, c18, hd0⟩ := hd0
  refine wo_callP rfl en17 rfl (c_walks_Reach (⟨_, ⟨_, _, rfl, rfl, ⟨_, _, rfl, rfl, (rep_one rfl h16)⟩⟩, rfl⟩ : VRep (kMach false false) _ _ (⟨y7.inputs, y7.outputs, y7.rows⟩ : Mach)) c18) fun v19 R21 le22 h20 => ?_
  obtain ⟨v23, rfl, h24⟩ := h20
  refine wo_v rfl (val_move (v := (.tuple #[v23, (.int .i64 y17.2)])) rfl) ?_
  refine wo_v rfl (val_extract rfl rfl) ?_
  refine wo_v rfl (val_extract rfl rfl) ?_
  refine wo_v rfl (val_assign (v := v23) rfl) ?_
  refine wo_v rfl (val_assign (v := (.int .i64 y17.2)) rfl) ?_
  refine wo_nil ?_
  refine wg_seq ?_
  replace hd0 := bd_some hd0; obtain ⟨y25, c26, hd0⟩ := hd0
  replace hd0 := bd_some hd0; obtain ⟨y27, c28, hd0⟩ := hd0
  replace hd0 := bd_some hd0; obtain ⟨y29, c30, hd0⟩ := hd0
  refine wg_guarded 23 [] [phX (.agg #[(.int .i64 y7.inputs), (.int .i64 y7.outputs), v15]), phX (.int .i64 y25), phX (.bool (decide (y25 = 0))), phX (.bool (decide (y25 = 0))), phG (true && ((decide (y25 = 0)) == true)) (phX (.agg #[(.int .i64 y7.inputs), (.int .i64 y7.outputs), v15])), phG (true && ((decide (y25 = 0)) == true)) (phX (.bool (y27.getD default))), phX (.bool ((decide (y25 = 0)) && (y27.getD default))), phX (.bool ((decide (y25 = 0)) && (y27.getD default))), phG (true && (((decide (y25 = 0)) && (y27.getD default)) == true)) (phX (.int .i64 y17.2)), phG (true && (((decide (y25 = 0)) && (y27.getD default)) == true)) (phX (.bool (decide (y17.2 = 0)))), phX (.bool (((decide (y25 = 0)) && (y27.getD default)) && (decide (y17.2 = 0)))), phX (.bool (((decide (y25 = 0)) && (y27.getD default)) && (decide (y17.2 = 0)))), phG (true && ((((decide (y25 = 0)) && (y27.getD default)) && (decide (y17.2 = 0))) == true)) (phX v23), phG (true && ((((decide (y25 = 0)) && (y27.getD default)) && (decide (y17.2 = 0))) == true)) (phX (.int .i64 (↑y17.1.length : Int))), phG (true && ((((decide (y25 = 0)) && (y27.getD default)) && (decide (y17.2 = 0))) == true)) (phX (.pointer (some ⟨b13, 2, none⟩))), phG (true && ((((decide (y25 = 0)) && (y27.getD default)) && (decide (y17.2 = 0))) == true)) (phX v15), phG (true && ((((decide (y25 = 0)) && (y27.getD default)) && (decide (y17.2 = 0))) == true)) (phX (.int .i64 (↑y7.rows.length : Int))), phG (true && ((((decide (y25 = 0)) && (y27.getD default)) && (decide (y17.2 = 0))) == true)) (phX (.bool (decide ((↑y17.1.length : Int) = (↑y7.rows.length : Int))))), phX (.bool ((((decide (y25 = 0)) && (y27.getD default)) && (decide (y17.2 = 0))) && (decide ((↑y17.1.length : Int) = (↑y7.rows.length : Int))))), phX (.bool ((((decide (y25 = 0)) && (y27.getD default)) && (decide (y17.2 = 0))) && (decide ((↑y17.1.length : Int) = (↑y7.rows.length : Int))))), phG (true && (((((decide (y25 = 0)) && (y27.getD default)) && (decide (y17.2 = 0))) && (decide ((↑y17.1.length : Int) = (↑y7.rows.length : Int)))) == true)) (phX (.bool (y29.getD default))), phX (.bool (((((decide (y25 = 0)) && (y27.getD default)) && (decide (y17.2 = 0))) && (decide ((↑y17.1.length : Int) = (↑y7.rows.length : Int)))) && (y29.getD default))), phX (.bool (((((decide (y25 = 0)) && (y27.getD default)) && (decide (y17.2 = 0))) && (decide ((↑y17.1.length : Int) = (↑y7.rows.length : Int)))) && (y29.getD default)))] (by kernel_rfl) (by kernel_rfl) (monoOk_of ⟨mono_x, mono_x, mono_x, mono_x, (mono_g mono_x), (mono_g mono_x), mono_x, mono_x, (mono_g mono_x), (mono_g mono_x), mono_x, mono_x, (mono_g mono_x), (mono_g mono_x), (mono_g mono_x), (mono_g mono_x), (mono_g mono_x), (mono_g mono_x), mono_x, mono_x, (mono_g mono_x), mono_x, mono_x, trivial⟩) ⟨?_, ?_, ?_, ?_, ?_, ?_, ?_, ?_, ?_, ?_, ?_, ?_, ?_, ?_, ?_, ?_, ?_, ?_, ?_, ?_, ?_, ?_, ?_, trivial⟩ fun R31 le32 => ?_
  · intro l R0q hle ha hd
    have a3 : l 3 = (.pointer (some ⟨b13, 0, none⟩)) := ha 3 rfl
    exact gstep_plain rfl rfl rfl (ph_val (val_loadBA (i := 0) ag27 sz27 a3 rfl rfl rfl))
  · intro l R1q hle ha hd
    obtain ⟨d0, _⟩ := hd
    have f13 : l 13 = (.agg #[(.int .i64 y7.inputs), (.int .i64 y7.outputs), v15]) := d0 rfl
    exact gstep_plain rfl rfl rfl (ph_callP (vs := [(.agg #[(.int .i64 y7.inputs), (.int .i64 y7.outputs), v15])]) en33 (by simp only [List.map, ev, f13] <;> rfl) (c_gauntletref04_Check (⟨_, ⟨_, _, rfl, rfl, ⟨_, _, rfl, rfl, (rep_one rfl ((h16.mono le22).mono hle))⟩⟩, rfl⟩ : VRep (kMach false false) _ _ (⟨y7.inputs, y7.outputs, y7.rows⟩ : Mach)) c26) (fun _ _ h => h))
  · intro l R2q hle ha hd
    obtain ⟨d0, _⟩ := hd
    have f14 : l 14 = (.int .i64 y25) := d0 rfl
    exact gstep_plain rfl rfl rfl (ph_val (val_eql f14 rfl))
  · intro l R3q hle ha hd
    obtain ⟨d0, d1, _⟩ := hd
    have f15 : l 15 = (.bool (decide (y25 = 0))) := d0 rfl
    exact gstep_plain rfl rfl rfl (ph_val (val_move f15))
  · intro l R4q hle ha hd
    obtain ⟨d0, _⟩ := hd
    have a3 : l 3 = (.pointer (some ⟨b13, 0, none⟩)) := ha 3 rfl
    exact gstep_guard (Gj := true) (Bj := decide (y25 = 0)) rfl rfl rfl (gtrue (d0 rfl)) rfl (fun hG hB => ph_val (val_loadBA (i := 0) ag27 sz27 a3 rfl rfl rfl))
  · intro l R5q hle ha hd
    obtain ⟨d0, d1, d2, _⟩ := hd
    have f17g : phG (true && ((decide (y25 = 0)) == true)) (phX (.agg #[(.int .i64 y7.inputs), (.int .i64 y7.outputs), v15])) (l 17) R5q := d0 rfl
    exact gstep_guard (Gj := true) (Bj := decide (y25 = 0)) rfl rfl rfl (gtrue (d1 rfl)) rfl (fun hG hB => ph_callP (vs := [(.agg #[(.int .i64 y7.inputs), (.int .i64 y7.outputs), v15])]) en35 (by simp only [List.map, ev, (show l 17 = (.agg #[(.int .i64 y7.inputs), (.int .i64 y7.outputs), v15]) from f17g.1 (gandT rfl hB))] <;> rfl) ((by have z := (gop_def c28 (gandT hG hB)); exact c_gauntletref04_Complete (⟨_, ⟨_, _, rfl, rfl, ⟨_, _, rfl, rfl, (rep_one rfl ((h16.mono le22).mono hle))⟩⟩, rfl⟩ : VRep (kMach false false) _ _ (⟨y7.inputs, y7.outputs, y7.rows⟩ : Mach)) z)) (fun _ _ h => h))
  · intro l R6q hle ha hd
    obtain ⟨d0, d1, _⟩ := hd
    have f16 : l 16 = (.bool (decide (y25 = 0))) := d0 rfl
    have f18g : phG (true && ((decide (y25 = 0)) == true)) (phX (.bool (y27.getD default))) (l 18) R6q := d1 rfl
    exact gstep_plain rfl rfl rfl (ph_val (val_and f16 (fun hb => (show l 18 = (.bool (y27.getD default)) from f18g.1 (gandT rfl hb))) rfl))
  · intro l R7q hle ha hd
    obtain ⟨d0, d1, _⟩ := hd
    have f19 : l 19 = (.bool ((decide (y25 = 0)) && (y27.getD default))) := d0 rfl
    exact gstep_plain rfl rfl rfl (ph_val (val_move f19))
  · intro l R8q hle ha hd
    obtain ⟨d0, _⟩ := hd
    have a5 : l 5 = (.int .i64 y17.2) := ha 5 rfl
    exact gstep_guard (Gj := true) (Bj := (decide (y25 = 0)) && (y27.getD default)) rfl rfl rfl (gtrue (d0 rfl)) rfl (fun hG hB => ph_val (val_move a5))
  · intro l R9q hle ha hd
    obtain ⟨d0, d1, _⟩ := hd
    have f21g : phG (true && (((decide (y25 = 0)) && (y27.getD default)) == true)) (phX (.int .i64 y17.2)) (l 21) R9q := d0 rfl
    exact gstep_guard (Gj := true) (Bj := (decide (y25 = 0)) && (y27.getD default)) rfl rfl rfl (gtrue (d1 rfl)) rfl (fun hG hB => ph_val (val_eql (show l 21 = (.int .i64 y17.2) from f21g.1 (gandT rfl hB)) rfl))
  · intro l R10q hle ha hd
    obtain ⟨d0, d1, _⟩ := hd
    have f20 : l 20 = (.bool ((decide (y25 = 0)) && (y27.getD default))) := d0 rfl
    have f22g : phG (true && (((decide (y25 = 0)) && (y27.getD default)) == true)) (phX (.bool (decide (y17.2 = 0)))) (l 22) R10q := d1 rfl
    exact gstep_plain rfl rfl rfl (ph_val (val_and f20 (fun hb => (show l 22 = (.bool (decide (y17.2 = 0))) from f22g.1 (gandT rfl hb))) rfl))
  · intro l R11q hle ha hd
    obtain ⟨d0, d1, _⟩ := hd
    have f23 : l 23 = (.bool (((decide (y25 = 0)) && (y27.getD default)) && (decide (y17.2 = 0)))) := d0 rfl
    exact gstep_plain rfl rfl rfl (ph_val (val_move f23))
  · intro l R12q hle ha hd
    obtain ⟨d0, _⟩ := hd
    have a4 : l 4 = v23 := ha 4 rfl
    exact gstep_guard (Gj := true) (Bj := ((decide (y25 = 0)) && (y27.getD default)) && (decide (y17.2 = 0))) rfl rfl rfl (gtrue (d0 rfl)) rfl (fun hG hB => ph_val (val_move a4))
  · intro l R13q hle ha hd
    obtain ⟨d0, d1, _⟩ := hd
    have f25g : phG (true && ((((decide (y25 = 0)) && (y27.getD default)) && (decide (y17.2 = 0))) == true)) (phX v23) (l 25) R13q := d0 rfl
    exact gstep_guard (Gj := true) (Bj := ((decide (y25 = 0)) && (y27.getD default)) && (decide (y17.2 = 0))) rfl rfl rfl (gtrue (d1 rfl)) rfl (fun hG hB => ph_val (val_lenR rfl Try.underlying36 (show l 25 = v23 from f25g.1 (gandT rfl hB)) (sl_s (h24.mono hle))))
  · intro l R14q hle ha hd
    obtain ⟨d0, _⟩ := hd
    have a3 : l 3 = (.pointer (some ⟨b13, 0, none⟩)) := ha 3 rfl
    exact gstep_guard (Gj := true) (Bj := ((decide (y25 = 0)) && (y27.getD default)) && (decide (y17.2 = 0))) rfl rfl rfl (gtrue (d0 rfl)) rfl (fun hG hB => ph_val (val_fieldB fd27_2 a3))
  · intro l R15q hle ha hd
    obtain ⟨d0, d1, _⟩ := hd
    have f27g : phG (true && ((((decide (y25 = 0)) && (y27.getD default)) && (decide (y17.2 = 0))) == true)) (phX (.pointer (some ⟨b13, 2, none⟩))) (l 27) R15q := d0 rfl
    exact gstep_guard (Gj := true) (Bj := ((decide (y25 = 0)) && (y27.getD default)) && (decide (y17.2 = 0))) rfl rfl rfl (gtrue (d1 rfl)) rfl (fun hG hB => ph_val (val_loadB (i := 0) ag25 (show l 27 = (.pointer (some ⟨b13, 2, none⟩)) from f27g.1 (gandT rfl hB)) rfl rfl))
  · intro l R16q hle ha hd
    obtain ⟨d0, d1, _⟩ := hd
    have f28g : phG (true && ((((decide (y25 = 0)) && (y27.getD default)) && (decide (y17.2 = 0))) == true)) (phX v15) (l 28) R16q := d0 rfl
    exact gstep_guard (Gj := true) (Bj := ((decide (y25 = 0)) && (y27.getD default)) && (decide (y17.2 = 0))) rfl rfl rfl (gtrue (d1 rfl)) rfl (fun hG hB => ph_val (val_lenR rfl Try.underlying25 (show l 28 = v15 from f28g.1 (gandT rfl hB)) (sl_s ((h16.mono le22).mono hle))))
  · intro l R17q hle ha hd
    obtain ⟨d0, d1, d2, _⟩ := hd
    have f26g : phG (true && ((((decide (y25 = 0)) && (y27.getD default)) && (decide (y17.2 = 0))) == true)) (phX (.int .i64 (↑y17.1.length : Int))) (l 26) R17q := d0 rfl
    have f29g : phG (true && ((((decide (y25 = 0)) && (y27.getD default)) && (decide (y17.2 = 0))) == true)) (phX (.int .i64 (↑y7.rows.length : Int))) (l 29) R17q := d1 rfl
    exact gstep_guard (Gj := true) (Bj := ((decide (y25 = 0)) && (y27.getD default)) && (decide (y17.2 = 0))) rfl rfl rfl (gtrue (d2 rfl)) rfl (fun hG hB => ph_val (val_eql (show l 26 = (.int .i64 (↑y17.1.length : Int)) from f26g.1 (gandT rfl hB)) (show l 29 = (.int .i64 (↑y7.rows.length : Int)) from f29g.1 (gandT rfl hB))))
  · intro l R18q hle ha hd
    obtain ⟨d0, d1, _⟩ := hd
    have f24 : l 24 = (.bool (((decide (y25 = 0)) && (y27.getD default)) && (decide (y17.2 = 0)))) := d0 rfl
    have f30g : phG (true && ((((decide (y25 = 0)) && (y27.getD default)) && (decide (y17.2 = 0))) == true)) (phX (.bool (decide ((↑y17.1.length : Int) = (↑y7.rows.length : Int))))) (l 30) R18q := d1 rfl
    exact gstep_plain rfl rfl rfl (ph_val (val_and f24 (fun hb => (show l 30 = (.bool (decide ((↑y17.1.length : Int) = (↑y7.rows.length : Int)))) from f30g.1 (gandT rfl hb))) rfl))
  · intro l R19q hle ha hd
    obtain ⟨d0, d1, _⟩ := hd
    have f31 : l 31 = (.bool ((((decide (y25 = 0)) && (y27.getD default)) && (decide (y17.2 = 0))) && (decide ((↑y17.1.length : Int) = (↑y7.rows.length : Int))))) := d0 rfl
    exact gstep_plain rfl rfl rfl (ph_val (val_move f31))
  · intro l R20q hle ha hd
    obtain ⟨d0, d1, _⟩ := hd
    exact gstep_guard (Gj := true) (Bj := (((decide (y25 = 0)) && (y27.getD default)) && (decide (y17.2 = 0))) && (decide ((↑y17.1.length : Int) = (↑y7.rows.length : Int)))) rfl rfl rfl (gtrue (d0 rfl)) rfl (fun hG hB => ph_callP (vs := []) en18 rfl ((by have z := (gop_def c30 (gandT hG hB)); exact c_gauntletlaw06_lives  z)) (fun _ _ h => h))
  · intro l R21q hle ha hd
    obtain ⟨d0, d1, _⟩ := hd
    have f32 : l 32 = (.bool ((((decide (y25 = 0)) && (y27.getD default)) && (decide (y17.2 = 0))) && (decide ((↑y17.1.length : Int) = (↑y7.rows.length : Int))))) := d0 rfl
    have f33g : phG (true && (((((decide (y25 = 0)) && (y27.getD default)) && (decide (y17.2 = 0))) && (decide ((↑y17.1.length : Int) = (↑y7.rows.length : Int)))) == true)) (phX (.bool (y29.getD default))) (l 33) R21q := d1 rfl
    exact gstep_plain rfl rfl rfl (ph_val (val_and f32 (fun hb => (show l 33 = (.bool (y29.getD default)) from f33g.1 (gandT rfl hb))) rfl))
  · intro l R22q hle ha hd
    obtain ⟨d0, d1, d2, d3, d4, d5, d6, d7, d8, d9, d10, d11, d12, d13, d14, d15, d16, d17, d18, d19, d20, d21, d22, d23, _⟩ := hd
    have f34 : l 34 = (.bool (((((decide (y25 = 0)) && (y27.getD default)) && (decide (y17.2 = 0))) && (decide ((↑y17.1.length : Int) = (↑y7.rows.length : Int)))) && (y29.getD default))) := d0 rfl
    exact gstep_plain rfl rfl rfl (ph_val (val_assign f34))
  intro v33 h34
  intro v35 h36
  intro v37 h38
  intro v39 h40
  intro v41 h42
  intro v43 h44
  intro v45 h46
  intro v47 h48
  intro v49 h50
  intro v51 h52
  intro v53 h54
  intro v55 h56
  intro v57 h58
  intro v59 h60
  intro v61 h62
  intro v63 h64
  intro v65 h66
  intro v67 h68
  intro v69 h70
  intro v71 h72
  intro v73 h74
  intro v75 h76
  intro v77 h78
  obtain rfl := Eq.symm h34
  obtain rfl := Eq.symm h36
  obtain rfl := Eq.symm h38
  obtain rfl := Eq.symm h40
  obtain rfl := Eq.symm h46
  obtain rfl := Eq.symm h48
  obtain rfl := Eq.symm h54
  obtain rfl := Eq.symm h56
  obtain rfl := Eq.symm h70
  obtain rfl := Eq.symm h72
  obtain rfl := Eq.symm h76
  obtain rfl := Eq.symm h78
  refine wo_nil ?_
  refine wg_ret ?_
  obtain rfl := Option.some.inj hd0
  refine body_end (D := []) (J := [box b13 [(.int .i64 y7.inputs), (.int .i64 y7.outputs), v15] 27]) (rs := [.tmp 2]) (vs := [(.bool (((((decide (y25 = 0)) && (y27.getD default)) && (decide (y17.2 = 0))) && (decide ((↑y17.1.length : Int) = (↑y7.rows.length : Int)))) && (y29.getD default)))]) (((le4.trans le12).trans le22).trans le32) rfl rfl ⟨rfl, trivial⟩ ?_
  exact ⟨rfl, rfl⟩
end GV
end Go.Proofs.Ytncblcdhmcmkmaa
