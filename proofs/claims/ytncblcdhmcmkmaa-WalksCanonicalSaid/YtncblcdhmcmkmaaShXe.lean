/- The walks of the functions; printed. -/
import Derived.Test.YtncblcdhmcmkmaaShWe
import Derived.Test.YtncblcdhmcmkmaaShXa
import Derived.Test.YtncblcdhmcmkmaaShXb
import Derived.Test.YtncblcdhmcmkmaaShXc
import Derived.Test.YtncblcdhmcmkmaaRows
namespace Go.Proofs.Ytncblcdhmcmkmaa
namespace GV
open Go.IntWalk
set_option linter.unusedVariables false
set_option linter.unusedSimpArgs false
set_option maxRecDepth 100000
set_option maxHeartbeats 20000000
theorem c_gauntletref06_Part {N : Nat} {R : RH} {m : Mach} {v_m : Value} (h_m : VRep (kMach false false) R v_m m) {l_ : (List Int)} {v_l_ : Value} (h_l_ : VRep (tSl false (tInt .i64)) R v_l_ l_) {r : Mach} (hd0 : gauntletref06_Part N m l_ = some r) : CallP Try.prog 25 #[v_m, v_l_] R (fun v R' => VRep (kMach false false) R' v r) := by
  refine callP_of_wg (args := [v_m, v_l_]) Try.func25 rfl rfl fun A => ?_
  rw [gauntletref06_Part] at hd0
  refine wg_seq ?_
  refine wg_region ?_
  refine wo_boxR (T := (kMach false false)) rfl rfl h_m fun v1 R3 le4 h2 => ?_
  refine wo_alloc rfl za27 fun b5 => ?_
  refine wo_nil ?_
  refine wg_seq ?_
  refine wg_region ?_
  refine wo_fieldR rfl fd27_0 pt_Mach0 rfl h2 fun v7 h8 => ?_
  refine wo_loadR rfl ty3 rfl h8 fun v9 h10 => ?_
  obtain rfl := vrep_int.1 h10
  refine wo_fieldR rfl fd27_1 pt_Mach1 rfl h2 fun v11 h12 => ?_
  refine wo_loadR rfl ty3 rfl h12 fun v13 h14 => ?_
  obtain rfl := vrep_int.1 h14
  refine wo_v rfl (val_buildL (ps := [(0, (.int .i64 m.inputs)), (1, (.int .i64 m.outputs))]) (v := (.agg #[(.int .i64 m.inputs), (.int .i64 m.outputs), (.slice none 0 0)])) rfl (fun w => by kernel_rfl)) ?_
  refine wo_alloc rfl za27 fun b15 => ?_
  refine wo_store (i := 0) (vs := [(.int .i64 m.inputs), (.int .i64 m.outputs), (.slice none 0 0)]) sz27 rfl rfl rfl rfl rfl rfl (one_cons rfl (one_cons rfl (one_cons rfl one_nil))) ?_
  refine wo_nil ?_
  replace hd0 := bd_some hd0; obtain ⟨o17, hd1, hd0⟩ := hd0
  refine wg_meet (γ := (List (List Edge)) × Value × Frag) true [6, 17, 18, 19, 20, 7, 8, 23, 24, 25, 26, 29, 30, 31, 32, 33, 34, 35, 36, 37, 38, 39, 9, 10, 11, 40, 41, 42, 43, 46, 47, 48, 49, 50, 51, 52, 53, 44, 45, 54, 55, 56, 57, 58, 59, 60, 27, 28, 61, 62, 63, 64, 65, 66, 21, 22] (fun g => []) (fun g => [box b5 [(.int .i64 0), (.int .i64 0), (.slice none 0 0)] 27, box b15 [(.int .i64 m.inputs), (.int .i64 m.outputs), g.2.1] 27, g.2.2] ++ A) (fun g R => o17 = g.1 ∧ ORep (tSl false kEdge) R g.2.2 g.2.1 g.1 ∧ True) ?_ ?_
  ·
    refine wg_seq ?_
    refine wg_region ?_
    refine wo_v rfl (val_assign (v := (.int .i64 0)) rfl) ?_
    refine wo_nil ?_
    refine wg_block ?_
    refine wg_emp ?_
    refine wg_loopS (γ := Nat × Int × (List (List Edge)) × Value × Frag) true [17, 18, 19, 20, 7, 8, 23, 24, 25, 26, 29, 30, 31, 32, 33, 34, 35, 36, 37, 38, 39, 9, 10, 11, 40, 41, 42, 43, 46, 47, 48, 49, 50, 51, 52, 53, 44, 45, 54, 55, 56, 57, 58, 59, 60, 27, 28, 61, 62, 63, 64, 65, 66, 21, 22, 6] (fun g => [(6, (.int .i64 g.2.1))]) (fun g => [box b5 [(.int .i64 0), (.int .i64 0), (.slice none 0 0)] 27, box b15 [(.int .i64 m.inputs), (.int .i64 m.outputs), g.2.2.2.1] 27, g.2.2.2.2] ++ A) (fun g R => gauntletref06_Part_L1 N m l_ g.1 g.2.1 g.2.2.1 = some o17 ∧ ORep (tSl false kEdge) R g.2.2.2.2 g.2.2.2.1 g.2.2.1 ∧ True) (fun g => g.1) (N, 0, ([] : List (List Edge)), (.slice none 0 0), emp) ⟨rfl, trivial⟩ ⟨[], (pk 2 rfl (pk 1 rfl (pk 0 rfl (List.Perm.refl _))))⟩ ⟨hd1, (orep_emp (T := (tSl false kEdge))), trivial⟩ (fun _ => rfl) ?_
    clear hd1
    rintro ⟨F25, x26, x27, v30, f31⟩ j166 D167 R28 hD168 le29 ⟨hd1, h32, _⟩
    obtain rfl := hD168 rfl
    rcases F25 with _ | F25
    · exact none_elim hd1
    replace hd1 : gauntletref06_Part_L1 N m l_ (F25 + 1) x26 x27 = some o17 := hd1; rw [gauntletref06_Part_L1] at hd1
    refine wg_seq ?_
    refine wg_seq ?_
    refine wg_region ?_
    refine wo_v rfl (val_move (v := (.int .i64 x26)) rfl) ?_
    refine wo_v rfl (val_move (v := v_l_) rfl) ?_
    refine wo_v rfl (val_lenR rfl Try.underlying36 rfl (sl_s (h_l_.mono (le4.trans le29)))) ?_
    refine wo_v rfl (val_lss rfl rfl) ?_
    refine wo_nil ?_
    refine wg_cond rfl (fun e34 => ?_) (fun e34 => ?_)
    · replace hd1 := sel_t e34 hd1; clear e34
      refine wg_skip ?_
      refine wg_seq ?_
      refine wg_block ?_
      refine wg_seq ?_
      refine wg_region ?_
      refine wo_v rfl (val_assign (v := (.slice none 0 0)) rfl) ?_
      refine wo_nil ?_
      replace hd1 := bd_some hd1; obtain ⟨o35, hd2, hd1⟩ := hd1
      refine wg_meet (γ := (List Edge) × Value × Frag) true [8, 23, 24, 25, 26, 29, 30, 31, 32, 33, 34, 35, 36, 37, 38, 39, 9, 10, 11, 40, 41, 42, 43, 46, 47, 48, 49, 50, 51, 52, 53, 44, 45, 54, 55, 56, 57, 58, 59, 60, 7, 27, 28] (fun g => [(7, g.2.1)]) (fun g => [box b5 [(.int .i64 0), (.int .i64 0), (.slice none 0 0)] 27, box b15 [(.int .i64 m.inputs), (.int .i64 m.outputs), v30] 27, f31, g.2.2] ++ A) (fun g R => o35 = g.1 ∧ ORep kEdge R g.2.2 g.2.1 g.1 ∧ True) ?_ ?_
      ·
        refine wg_seq ?_
        refine wg_region ?_
        refine wo_v rfl (val_assign (v := (.int .i64 0)) rfl) ?_
        refine wo_nil ?_
        refine wg_block ?_
        refine wg_emp ?_
        refine wg_loopS (γ := Nat × (List Edge) × Int × Value × Frag) true [23, 24, 25, 26, 29, 30, 31, 32, 33, 34, 35, 36, 37, 38, 39, 9, 10, 11, 40, 41, 42, 43, 46, 47, 48, 49, 50, 51, 52, 53, 44, 45, 54, 55, 56, 57, 58, 59, 60, 7, 27, 28, 8] (fun g => [(7, g.2.2.2.1), (8, (.int .i64 g.2.2.1))]) (fun g => [box b5 [(.int .i64 0), (.int .i64 0), (.slice none 0 0)] 27, box b15 [(.int .i64 m.inputs), (.int .i64 m.outputs), v30] 27, f31, g.2.2.2.2] ++ A) (fun g R => gauntletref06_Part_L2 N m l_ x26 g.1 g.2.1 g.2.2.1 = some o35 ∧ ORep kEdge R g.2.2.2.2 g.2.2.2.1 g.2.1 ∧ True) (fun g => g.1) (N, ([] : List Edge), 0, (.slice none 0 0), emp) ⟨rfl, rfl, trivial⟩ ⟨[], (pk 1 rfl (pk 1 rfl (pk 1 rfl (pk 0 rfl (List.Perm.refl _)))))⟩ ⟨hd2, (orep_emp (T := kEdge)), trivial⟩ (fun _ => rfl) ?_
        clear hd2
        rintro ⟨F43, x44, x45, v48, f49⟩ j142 D143 R46 hD144 le47 ⟨hd2, h50, _⟩
        obtain rfl := hD144 rfl
        rcases F43 with _ | F43
        · exact none_elim hd2
        replace hd2 : gauntletref06_Part_L2 N m l_ x26 (F43 + 1) x44 x45 = some o35 := hd2; rw [gauntletref06_Part_L2] at hd2
        refine wg_seq ?_
        refine wg_seq ?_
        refine wg_region ?_
        refine wo_v rfl (val_move (v := (.int .i64 x45)) rfl) ?_
        refine wo_fieldR rfl fd27_0 pt_Mach0 rfl (h2.mono (le29.trans le47)) fun v52 h53 => ?_
        refine wo_loadR rfl ty3 rfl h53 fun v54 h55 => ?_
        obtain rfl := vrep_int.1 h55
        refine wo_v rfl (val_lss rfl rfl) ?_
        refine wo_nil ?_
        refine wg_cond rfl (fun e56 => ?_) (fun e56 => ?_)
        · replace hd2 := sel_t e56 hd2; clear e56
          refine wg_skip ?_
          refine wg_seq ?_
          refine wg_block ?_
          refine wg_seq ?_
          have g57 := (gd_some hd2).1; replace hd2 := (gd_some hd2).2
          have g58 := (gd_some hd2).1; replace hd2 := (gd_some hd2).2
          have g59 := (gd_some hd2).1; replace hd2 := (gd_some hd2).2
          refine wg_drawn 12 [⟨11, [.int .i64 0, .int .i64 0], 49⟩] [phP (tSl false (tSl false kEdge)) m.rows, phR (tSl false (tSl false kEdge)) m.rows, phX v_l_, phX (.int .i64 x26), phP (tInt .i64) (ix l_ x26), phX (.int .i64 (ix l_ x26)), phP (tSl false kEdge) (ix m.rows (ix l_ x26)), phR (tSl false kEdge) (ix m.rows (ix l_ x26)), phX (.int .i64 x45), phP kEdge (ix (ix m.rows (ix l_ x26)) x45), phX (enc_Edge (ix (ix m.rows (ix l_ x26)) x45)), phB] mixed (by kernel_rfl) (monoOk_of ⟨mono_p, mono_r, mono_x, mono_x, mono_p, mono_x, mono_p, mono_r, mono_x, mono_p, mono_x, mono_b, trivial⟩) ⟨?_, ?_, ?_, ?_, ?_, ?_, ?_, ?_, ?_, ?_, ?_, ?_, trivial⟩ fun R60 le61 => ?_
          · intro l R0q hle ha hd
            have a2 : l 2 = v1 := ha 2 rfl
            exact gstep_plain rfl rfl rfl (ph_fieldR fd27_2 pt_Mach2 a2 ((h2.mono (le29.trans le47)).mono hle))
          · intro l R1q hle ha hd
            obtain ⟨d0, _⟩ := hd
            have f29 : phP (tSl false (tSl false kEdge)) m.rows (l 29) R1q := d0 rfl
            exact gstep_plain rfl rfl rfl (ph_loadR ty25 rfl f29)
          · intro l R2q hle ha hd
            have a1 : l 1 = v_l_ := ha 1 rfl
            exact gstep_plain rfl rfl rfl (ph_val (val_move a1))
          · intro l R3q hle ha hd
            have a6 : l 6 = (.int .i64 x26) := ha 6 rfl
            exact gstep_plain rfl rfl rfl (ph_val (val_move a6))
          · intro l R4q hle ha hd
            obtain ⟨d0, d1, _⟩ := hd
            have f31 : l 31 = v_l_ := d0 rfl
            have f32 : l 32 = (.int .i64 x26) := d1 rfl
            exact gstep_plain rfl rfl rfl (ph_indexR (i := x26.toNat) sl36 f31 (sl_s ((h_l_.mono ((le4.trans le29).trans le47)).mono hle)) (idx_nonneg f32 g57.1) (okI_lt g57))
          · intro l R5q hle ha hd
            obtain ⟨d0, _⟩ := hd
            have f33 : phP (tInt .i64) (ix l_ x26) (l 33) R5q := d0 rfl
            exact gstep_plain rfl rfl rfl (ph_exact (ph_loadR ty3 rfl f33) (fun _ _ h => vrep_int.1 h))
          · intro l R6q hle ha hd
            obtain ⟨d0, d1, _⟩ := hd
            have f30 : phR (tSl false (tSl false kEdge)) m.rows (l 30) R6q := d0 rfl
            have f34 : l 34 = (.int .i64 (ix l_ x26)) := d1 rfl
            exact gstep_plain rfl rfl rfl (ph_indexR (i := (ix l_ x26).toNat) sl25 rfl (sl_s f30) (idx_nonneg f34 g58.1) (okI_lt g58))
          · intro l R7q hle ha hd
            obtain ⟨d0, _⟩ := hd
            have f35 : phP (tSl false kEdge) (ix m.rows (ix l_ x26)) (l 35) R7q := d0 rfl
            exact gstep_plain rfl rfl rfl (ph_loadR ty50 rfl f35)
          · intro l R8q hle ha hd
            have a8 : l 8 = (.int .i64 x45) := ha 8 rfl
            exact gstep_plain rfl rfl rfl (ph_val (val_move a8))
          · intro l R9q hle ha hd
            obtain ⟨d0, d1, _⟩ := hd
            have f36 : phR (tSl false kEdge) (ix m.rows (ix l_ x26)) (l 36) R9q := d0 rfl
            have f37 : l 37 = (.int .i64 x45) := d1 rfl
            exact gstep_plain rfl rfl rfl (ph_indexR (i := x45.toNat) sl50 rfl (sl_s f36) (idx_nonneg f37 g59.1) (okI_lt g59))
          · intro l R10q hle ha hd
            obtain ⟨d0, _⟩ := hd
            have f38 : phP kEdge (ix (ix m.rows (ix l_ x26)) x45) (l 38) R10q := d0 rfl
            exact gstep_plain rfl rfl rfl (ph_exact (ph_loadR ty49 rfl f38) (fun _ _ h => vrep_Edge.1 h))
          · intro l R11q hle ha hd
            exact gstep_new rfl rfl rfl rfl za49
          intro v62 h63
          intro v64 h65
          intro v66 h67
          intro v68 h69
          intro v70 h71
          intro v72 h73
          intro v74 h75
          intro v76 h77
          intro v78 h79
          intro v80 h81
          intro v82 h83
          intro v84 h85
          obtain rfl := Eq.symm h67
          obtain rfl := Eq.symm h69
          obtain rfl := Eq.symm h73
          obtain rfl := Eq.symm h79
          obtain rfl := Eq.symm h83
          obtain ⟨b86, rfl⟩ := h85
          refine wo_store (i := 0) (vs := [(.int .i64 ((ix (ix m.rows (ix l_ x26)) x45).to)), (.int .i64 ((ix (ix m.rows (ix l_ x26)) x45).out))]) sz49 rfl rfl rfl rfl rfl rfl (one_cons rfl (one_cons rfl one_nil)) ?_
          refine wo_nil ?_
          refine wg_seq ?_
          refine wg_region ?_
          refine wo_v rfl (val_assign (v := (.int .i64 (-1))) rfl) ?_
          refine wo_nil ?_
          replace hd2 := bd_some hd2; obtain ⟨o88, hd3, hd2⟩ := hd2
          refine wg_meet (γ := Int) true [11, 40, 41, 42, 43, 46, 47, 48, 49, 50, 51, 52, 53, 10, 44, 45] (fun g => [(10, (.int .i64 g))]) (fun g => [box b5 [(.int .i64 0), (.int .i64 0), (.slice none 0 0)] 27, box b15 [(.int .i64 m.inputs), (.int .i64 m.outputs), v30] 27, f31, f49, box b86 [(.int .i64 ((ix (ix m.rows (ix l_ x26)) x45).to)), (.int .i64 ((ix (ix m.rows (ix l_ x26)) x45).out))] 49] ++ A) (fun g R => o88 = g ∧ True) ?_ ?_
          ·
            refine wg_seq ?_
            refine wg_region ?_
            refine wo_v rfl (val_assign (v := (.int .i64 0)) rfl) ?_
            refine wo_nil ?_
            refine wg_block ?_
            refine wg_loopS (γ := Nat × Int × Int) true [40, 41, 42, 43, 46, 47, 48, 49, 50, 51, 52, 53, 10, 44, 45, 11] (fun g => [(10, (.int .i64 g.2.1)), (11, (.int .i64 g.2.2))]) (fun g => [box b5 [(.int .i64 0), (.int .i64 0), (.slice none 0 0)] 27, box b15 [(.int .i64 m.inputs), (.int .i64 m.outputs), v30] 27, f31, f49, box b86 [(.int .i64 ((ix (ix m.rows (ix l_ x26)) x45).to)), (.int .i64 ((ix (ix m.rows (ix l_ x26)) x45).out))] 49] ++ A) (fun g R => gauntletref06_Part_L3 N m l_ x26 x45 g.1 g.2.1 g.2.2 = some o88 ∧ True) (fun g => g.1) (N, (-1), 0) ⟨rfl, rfl, trivial⟩ ⟨[], (pk 1 rfl (pk 1 rfl (pk 1 rfl (pk 1 rfl (pk 0 rfl (List.Perm.refl _))))))⟩ ⟨hd3, trivial⟩ (fun _ => rfl) ?_
            clear hd3
            rintro ⟨F91, x92, x93⟩ j122 D123 R94 hD124 le95 ⟨hd3, _⟩
            obtain rfl := hD124 rfl
            rcases F91 with _ | F91
            · exact none_elim hd3
            replace hd3 : gauntletref06_Part_L3 N m l_ x26 x45 (F91 + 1) x92 x93 = some o88 := hd3; rw [gauntletref06_Part_L3] at hd3
            refine wg_seq ?_
            refine wg_seq ?_
            refine wg_region ?_
            refine wo_v rfl (val_move (v := (.int .i64 x93)) rfl) ?_
            refine wo_v rfl (val_move (v := v_l_) rfl) ?_
            refine wo_v rfl (val_lenR rfl Try.underlying36 rfl (sl_s (h_l_.mono ((((le4.trans le29).trans le47).trans le61).trans le95)))) ?_
            refine wo_v rfl (val_lss rfl rfl) ?_
            refine wo_nil ?_
            refine wg_cond rfl (fun e96 => ?_) (fun e96 => ?_)
            · replace hd3 := sel_t e96 hd3; clear e96
              refine wg_skip ?_
              replace hd3 := bd_some hd3; obtain ⟨o97, hd4, hd3⟩ := hd3
              refine wg_meet (γ := Int) true [46, 47, 48, 49, 50, 51, 52, 53, 10] (fun g => [(10, (.int .i64 g))]) (fun g => [box b5 [(.int .i64 0), (.int .i64 0), (.slice none 0 0)] 27, box b15 [(.int .i64 m.inputs), (.int .i64 m.outputs), v30] 27, f31, f49, box b86 [(.int .i64 ((ix (ix m.rows (ix l_ x26)) x45).to)), (.int .i64 ((ix (ix m.rows (ix l_ x26)) x45).out))] 49] ++ A) (fun g R => o97 = g ∧ True) ?_ ?_
              ·
                refine wg_block ?_
                refine wg_seq ?_
                have g100 := (gd_some hd4).1; replace hd4 := (gd_some hd4).2
                refine wg_drawn 7 [] [phX v_l_, phX (.int .i64 x93), phP (tInt .i64) (ix l_ x93), phX (.int .i64 (ix l_ x93)), phX (.pointer (some ⟨b86, 0, none⟩)), phX (.int .i64 ((ix (ix m.rows (ix l_ x26)) x45).to)), phX (.bool (decide ((ix l_ x93) = ((ix (ix m.rows (ix l_ x26)) x45).to))))] mixed (by kernel_rfl) (monoOk_of ⟨mono_x, mono_x, mono_p, mono_x, mono_x, mono_x, mono_x, trivial⟩) ⟨?_, ?_, ?_, ?_, ?_, ?_, ?_, trivial⟩ fun R101 le102 => ?_
                · intro l R0q hle ha hd
                  have a1 : l 1 = v_l_ := ha 1 rfl
                  exact gstep_plain rfl rfl rfl (ph_val (val_move a1))
                · intro l R1q hle ha hd
                  have a11 : l 11 = (.int .i64 x93) := ha 11 rfl
                  exact gstep_plain rfl rfl rfl (ph_val (val_move a11))
                · intro l R2q hle ha hd
                  obtain ⟨d0, d1, _⟩ := hd
                  have f46 : l 46 = v_l_ := d0 rfl
                  have f47 : l 47 = (.int .i64 x93) := d1 rfl
                  exact gstep_plain rfl rfl rfl (ph_indexR (i := x93.toNat) sl36 f46 (sl_s ((h_l_.mono ((((le4.trans le29).trans le47).trans le61).trans le95)).mono hle)) (idx_nonneg f47 g100.1) (okI_lt g100))
                · intro l R3q hle ha hd
                  obtain ⟨d0, _⟩ := hd
                  have f48 : phP (tInt .i64) (ix l_ x93) (l 48) R3q := d0 rfl
                  exact gstep_plain rfl rfl rfl (ph_exact (ph_loadR ty3 rfl f48) (fun _ _ h => vrep_int.1 h))
                · intro l R4q hle ha hd
                  have a9 : l 9 = (.pointer (some ⟨b86, 0, none⟩)) := ha 9 rfl
                  exact gstep_plain rfl rfl rfl (ph_val (val_fieldB fd49_0 a9))
                · intro l R5q hle ha hd
                  obtain ⟨d0, _⟩ := hd
                  have f50 : l 50 = (.pointer (some ⟨b86, 0, none⟩)) := d0 rfl
                  exact gstep_plain rfl rfl rfl (ph_val (val_loadB (i := 4) ag3 f50 rfl rfl))
                · intro l R6q hle ha hd
                  obtain ⟨d0, d1, _⟩ := hd
                  have f49 : l 49 = (.int .i64 (ix l_ x93)) := d0 rfl
                  have f51 : l 51 = (.int .i64 ((ix (ix m.rows (ix l_ x26)) x45).to)) := d1 rfl
                  exact gstep_plain rfl rfl rfl (ph_val (val_eql f49 f51))
                intro v103 h104
                intro v105 h106
                intro v107 h108
                intro v109 h110
                intro v111 h112
                intro v113 h114
                intro v115 h116
                obtain rfl := Eq.symm h104
                obtain rfl := Eq.symm h106
                obtain rfl := Eq.symm h110
                obtain rfl := Eq.symm h112
                obtain rfl := Eq.symm h114
                obtain rfl := Eq.symm h116
                refine wo_nil ?_
                refine wg_cond rfl (fun e117 => ?_) (fun e117 => ?_)
                · replace hd4 := sel_t e117 hd4; clear e117
                  refine wg_region ?_
                  refine wo_v rfl (val_move (v := (.int .i64 x93)) rfl) ?_
                  refine wo_v rfl (val_assign (v := (.int .i64 x93)) rfl) ?_
                  refine wo_nil ?_
                  exact ⟨(fun _ => rfl), le102, (by repeat (first | exact off_self | refine off_upd rfl ?_ | refine off_setl rfl ?_ | refine off_mask_sub rfl ?_)), x93, ⟨rfl, trivial⟩, ⟨[], List.Perm.refl _⟩, (Option.some.inj hd4).symm, trivial⟩
                · replace hd4 := sel_f e117 hd4; clear e117
                  refine wg_skip ?_
                  exact ⟨(fun _ => rfl), le102, (by repeat (first | exact off_self | refine off_upd rfl ?_ | refine off_setl rfl ?_ | refine off_mask_sub rfl ?_)), x92, ⟨rfl, trivial⟩, ⟨[], List.Perm.refl _⟩, (Option.some.inj hd4).symm, trivial⟩
              ·
                rintro o97 j118 D119 R98 hD120 le99 ⟨rfl, _⟩
                obtain rfl := hD120 rfl
                refine wg_region ?_
                refine wo_v rfl (val_move (v := (.int .i64 x93)) rfl) ?_
                have g121 := (gd_some hd3).1; replace hd3 := (gd_some hd3).2
                refine wo_v rfl (val_add rfl rfl g121) ?_
                refine wo_v rfl (val_assign (v := (.int .i64 (x93 + 1))) rfl) ?_
                refine wo_nil ?_
                exact ⟨(fun _ => rfl), le99, (by repeat (first | exact off_self | refine off_upd rfl ?_ | refine off_setl rfl ?_ | refine off_mask_sub rfl ?_)), (F91, o97, x93 + 1), Nat.lt_succ_self _, ⟨rfl, rfl, trivial⟩, ⟨[], List.Perm.refl _⟩, hd3, trivial⟩
            · replace hd3 := sel_f e96 hd3; clear e96
              refine wg_exit ?_
              exact ⟨(fun _ => rfl), le95, (by repeat (first | exact off_self | refine off_upd rfl ?_ | refine off_setl rfl ?_ | refine off_mask_sub rfl ?_)), x92, ⟨rfl, trivial⟩, ⟨[], List.Perm.refl _⟩, (Option.some.inj hd3).symm, trivial⟩
          ·
            rintro o88 j125 D126 R89 hD127 le90 ⟨rfl, _⟩
            obtain rfl := hD127 rfl
            refine wg_region ?_
            refine wo_v rfl (val_move (v := v48) rfl) ?_
            refine wo_v rfl (val_move (v := (.int .i64 o88)) rfl) ?_
            refine wo_v rfl (val_fieldB fd49_1 rfl) ?_
            refine wo_v rfl (val_loadB (i := 4) ag3 rfl rfl rfl) ?_
            refine wo_v rfl (val_buildL (ps := [(0, (.int .i64 o88)), (1, (.int .i64 ((ix (ix m.rows (ix l_ x26)) x45).out)))]) (v := (.agg #[(.int .i64 o88), (.int .i64 ((ix (ix m.rows (ix l_ x26)) x45).out))])) rfl (fun w => by kernel_rfl)) ?_
            refine wo_lit (T := kEdge) (X := ([(⟨o88, (ix (ix m.rows (ix l_ x26)) x45).out⟩ : Edge)] : List Edge)) (ps := [(0, (.agg #[(.int .i64 o88), (.int .i64 ((ix (ix m.rows (ix l_ x26)) x45).out))]))]) (css := [[(.int .i64 o88), (.int .i64 ((ix (ix m.rows (ix l_ x26)) x45).out))]]) rfl Try.underlying50 zo49 rfl rfl (lit_reps ⟨⟨_, _, rfl, rfl, rfl⟩, trivial⟩) rfl rfl (by decide) fun v128 f129 cap130 h131 => ?_
            refine wo_freeze (i := 0) rfl h131 fun R133 le134 h135 => ?_
            have h136 : VRep (tSl true kEdge) R133 v128 ([(⟨o88, (ix (ix m.rows (ix l_ x26)) x45).out⟩ : Edge)] : List Edge) := (sl_t h135 cap130)
            have g137 := (gd_some hd2).1; replace hd2 := (gd_some hd2).2
            refine wo_append (i := 3) (X := x44) (Y := ([(⟨o88, (ix (ix m.rows (ix l_ x26)) x45).out⟩ : Edge)] : List Edge)) rfl Try.underlying50 zo49 rfl rfl rfl (h50.mono ((le61.trans le90).trans le134)) (sl_s (Sub.v (B := (tSl false kEdge)) (sub_sl Sub.refl (fun _ => rfl)) h136)) g137.1 g137.2 fun v138 f139 h140 => ?_
            refine wo_v rfl (val_assign (v := v138) rfl) ?_
            refine wo_nil ?_
            refine wg_region ?_
            refine wo_v rfl (val_move (v := (.int .i64 x45)) rfl) ?_
            have g141 := (gd_some hd2).1; replace hd2 := (gd_some hd2).2
            refine wo_v rfl (val_add rfl rfl g141) ?_
            refine wo_v rfl (val_assign (v := (.int .i64 (x45 + 1))) rfl) ?_
            refine wo_nil ?_
            exact ⟨(fun _ => rfl), ((le61.trans le90).trans le134), (by repeat (first | exact off_self | refine off_upd rfl ?_ | refine off_setl rfl ?_ | refine off_mask_sub rfl ?_)), (F43, (x44 ++ ([(⟨o88, (ix (ix m.rows (ix l_ x26)) x45).out⟩ : Edge)] : List Edge)), x45 + 1, v138, f139), Nat.lt_succ_self _, ⟨rfl, rfl, trivial⟩, ⟨[box b86 [(.int .i64 ((ix (ix m.rows (ix l_ x26)) x45).to)), (.int .i64 ((ix (ix m.rows (ix l_ x26)) x45).out))] 49], (pk 4 rfl (pk 0 rfl (pk 0 rfl (pk 0 rfl (pk 0 rfl (List.Perm.refl _))))))⟩, hd2, h140, trivial⟩
        · replace hd2 := sel_f e56 hd2; clear e56
          refine wg_exit ?_
          exact ⟨(fun _ => rfl), le47, (by repeat (first | exact off_self | refine off_upd rfl ?_ | refine off_setl rfl ?_ | refine off_mask_sub rfl ?_)), (x44, v48, f49), ⟨rfl, trivial⟩, ⟨[], List.Perm.refl _⟩, (Option.some.inj hd2).symm, h50, trivial⟩
      ·
        rintro ⟨o35, v38, f39⟩ j145 D146 R36 hD147 le37 ⟨rfl, h40, _⟩
        obtain rfl := hD147 rfl
        refine wg_region ?_
        refine wo_v rfl (val_fieldB fd27_2 rfl) ?_
        refine wo_v rfl (val_loadB (i := 1) ag25 rfl rfl rfl) ?_
        refine wo_v rfl (val_move (v := v38) rfl) ?_
        refine wo_freeze (i := 3) rfl h40 fun R148 le149 h150 => ?_
        have h151 : VRep (tSl false kEdge) R148 v38 o35 := (sl_f h150)
        refine wo_lit (T := (tSl false kEdge)) (X := ([o35] : List (List Edge))) (ps := [(0, v38)]) (css := [[v38]]) rfl Try.underlying25 zo50 rfl (by simp only [List.map_cons, List.map_nil, sl_cells h151]; rfl) (lit_reps ⟨(rep_one rfl h151), trivial⟩) rfl rfl (by decide) fun v152 f153 cap154 h155 => ?_
        refine wo_freeze (i := 0) rfl h155 fun R157 le158 h159 => ?_
        have h160 : VRep (tSl true (tSl false kEdge)) R157 v152 ([o35] : List (List Edge)) := (sl_t h159 cap154)
        have g161 := (gd_some hd1).1; replace hd1 := (gd_some hd1).2
        refine wo_append (i := 2) (X := x27) (Y := ([o35] : List (List Edge))) rfl Try.underlying25 zo50 rfl rfl rfl (h32.mono ((le37.trans le149).trans le158)) (sl_s (Sub.v (B := (tSl false (tSl false kEdge))) (sub_sl Sub.refl (fun _ => rfl)) h160)) g161.1 g161.2 fun v162 f163 h164 => ?_
        refine wo_v rfl (val_fieldB fd27_2 rfl) ?_
        refine wo_store (i := 1) (vs := [v162]) sz25 rfl rfl (orep_cells h164) rfl rfl rfl (one_cons (orep_one h164) one_nil) ?_
        refine wo_nil ?_
        refine wg_region ?_
        refine wo_v rfl (val_move (v := (.int .i64 x26)) rfl) ?_
        have g165 := (gd_some hd1).1; replace hd1 := (gd_some hd1).2
        refine wo_v rfl (val_add rfl rfl g165) ?_
        refine wo_v rfl (val_assign (v := (.int .i64 (x26 + 1))) rfl) ?_
        refine wo_nil ?_
        exact ⟨(fun _ => rfl), ((le37.trans le149).trans le158), (by repeat (first | exact off_self | refine off_upd rfl ?_ | refine off_setl rfl ?_ | refine off_mask_sub rfl ?_)), (F25, x26 + 1, (x27 ++ ([o35] : List (List Edge))), v162, f163), Nat.lt_succ_self _, ⟨rfl, trivial⟩, ⟨[], List.Perm.refl _⟩, hd1, h164, trivial⟩
    · replace hd1 := sel_f e34 hd1; clear e34
      refine wg_exit ?_
      exact ⟨(fun _ => rfl), le29, (by repeat (first | exact off_self | refine off_upd rfl ?_ | refine off_setl rfl ?_ | refine off_mask_sub rfl ?_)), (x27, v30, f31), trivial, ⟨[], List.Perm.refl _⟩, (Option.some.inj hd1).symm, h32, trivial⟩
  ·
    rintro ⟨o17, v20, f21⟩ j169 D170 R18 hD171 le19 ⟨rfl, h22, _⟩
    obtain rfl := hD171 rfl
    refine wg_seq ?_
    refine wg_region ?_
    refine wo_v rfl (val_loadBA (i := 1) ag27 sz27 rfl rfl rfl rfl) ?_
    refine wo_store (i := 0) (vs := [(.int .i64 m.inputs), (.int .i64 m.outputs), v20]) sz27 rfl rfl rfl rfl rfl rfl (one_cons rfl (one_cons rfl (one_cons (orep_one h22) one_nil))) ?_
    refine wo_nil ?_
    refine wg_freeze (i := 2) rfl h22 fun R172 le173 h174 => ?_
    have h175 : VRep (tSl false (tSl false kEdge)) R172 v20 o17 := (sl_f h174)
    refine wg_ret ?_
    obtain rfl := Option.some.inj hd0
    refine body_end (D := []) (J := [box b5 [(.int .i64 m.inputs), (.int .i64 m.outputs), v20] 27, box b15 [(.int .i64 m.inputs), (.int .i64 m.outputs), v20] 27]) (rs := [.cell 4 27]) (vs := [(.agg #[(.int .i64 m.inputs), (.int .i64 m.outputs), v20])]) ((le4.trans le19).trans le173) rfl rfl ⟨⟨_, rfl, fun w hh => run_cellA (i := 0) hh rfl rfl ag27 sz27 rfl rfl⟩, trivial⟩ ?_
    exact ⟨rfl, (⟨_, ⟨_, _, rfl, rfl, ⟨_, _, rfl, rfl, (rep_one rfl h175)⟩⟩, rfl⟩ : VRep (kMach false false) _ _ (⟨m.inputs, m.outputs, o17⟩ : Mach))⟩
theorem en25 : Enters Try.prog 25 := enters_of Try.func25 rfl (by kernel_rfl)
end GV
end Go.Proofs.Ytncblcdhmcmkmaa
