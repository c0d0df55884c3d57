/- The walks of the functions; printed. -/
import Derived.Test.YtncblcdhmcmkmaaShWe
import Derived.Test.YtncblcdhmcmkmaaShXa
import Derived.Test.YtncblcdhmcmkmaaShXf
import Derived.Test.YtncblcdhmcmkmaaRows
namespace Go.Proofs.Ytncblcdhmcmkmaa
namespace GV
open Go.IntWalk
set_option linter.unusedVariables false
set_option linter.unusedSimpArgs false
set_option maxRecDepth 100000
set_option maxHeartbeats 20000000
theorem ar73 : ArrOk Try.prog 73 2 1 := arrOk_of (e := 3) Try.underlying73 (fun w => by kernel_rfl)
theorem c_gauntletlaw06_WalksErrors {N : Nat} {R : RH} {m : Mach} {v_m : Value} (h_m : VRep (kMach false false) R v_m m) {x : MDat} {v_x : Value} (h_x : VRep (kMDat false) R v_x x) {z : (Int × Int)} {r : Bool} (hd0 : gauntletlaw06_WalksErrors N m x z = some r) : CallP Try.prog 8 #[v_m, v_x, (enc_A2tInti64 z)] R (fun v R' => v = (.bool r)) := by
  refine callP_of_wg (args := [v_m, v_x, (enc_A2tInti64 z)]) Try.func8 rfl rfl fun A => ?_
  rw [gauntletlaw06_WalksErrors] at hd0
  refine wg_seq ?_
  refine wg_region ?_
  refine wo_boxR (T := (kMach false false)) rfl rfl h_m fun v1 R3 le4 h2 => ?_
  refine wo_boxR (T := (kMDat false)) rfl rfl (h_x.mono le4) fun v5 R7 le8 h6 => ?_
  refine wo_boxR (T := kA2tInti64) rfl rfl (vrep_A2tInti64.2 rfl) fun v9 R11 le12 h10 => ?_
  refine wo_v rfl (val_assign (v := (.bool false)) rfl) ?_
  refine wo_nil ?_
  refine wg_seq ?_
  refine wg_seq ?_
  refine wg_region ?_
  refine wo_fieldR rfl fd27_2 pt_Mach2 rfl (h2.mono (le8.trans le12)) fun v13 h14 => ?_
  refine wo_loadR rfl ty25 rfl h14 fun v15 h16 => ?_
  refine wo_v rfl (val_lenR rfl Try.underlying25 rfl (sl_s h16)) ?_
  refine wo_v rfl (val_gtr rfl rfl) ?_
  refine wo_nil ?_
  refine wg_cond rfl (fun e17 => ?_) (fun e17 => ?_)
  · replace hd0 := sel_t e17 hd0; clear e17
    as_aux_lemma =>
      refine wg_seq ?_
      refine wg_region ?_
      refine wo_v rfl (val_assign (v := (.bool true)) rfl) ?_
      refine wo_nil ?_
      refine wg_ret ?_
      obtain rfl := Option.some.inj hd0
      refine body_end (D := []) (J := []) (rs := [.tmp 6]) (vs := [(.bool true)]) ((le4.trans le8).trans le12) rfl rfl ⟨rfl, trivial⟩ ?_
      exact ⟨rfl, rfl⟩
  · replace hd0 := sel_f e17 hd0; clear e17
    as_aux_lemma =>
      refine wg_skip ?_
      replace hd0 := bd_some hd0; obtain ⟨q19, hd1, hd0⟩ := hd0
      refine wg_meet (γ := Unit) true [7, 34, 35, 36, 37, 38, 41, 42, 43, 44, 45, 46, 47, 6, 39, 40] (fun g => []) (fun g => [] ++ A) (fun g R => q19 = Ex.go g ∧ True) ?_ ?_
      ·
        refine wg_seq ?_
        refine wg_region ?_
        refine wo_v rfl (val_assign (v := (.int .i64 0)) rfl) ?_
        refine wo_nil ?_
        refine wg_block ?_
        refine wg_loopS (γ := Nat × Int) true [34, 35, 36, 37, 38, 41, 42, 43, 44, 45, 46, 47, 6, 39, 40, 7] (fun g => [(7, (.int .i64 g.2))]) (fun g => [] ++ A) (fun g R => gauntletlaw06_WalksErrors_L1 N m g.1 g.2 = some q19 ∧ True) (fun g => g.1) (N, 0) ⟨rfl, trivial⟩ ⟨[], List.Perm.refl _⟩ ⟨hd1, trivial⟩ (fun _ => rfl) ?_
        clear hd1
        rintro ⟨F22, x23⟩ j42 D43 R24 hD44 le25 ⟨hd1, _⟩
        obtain rfl := hD44 rfl
        rcases F22 with _ | F22
        · exact none_elim hd1
        replace hd1 : gauntletlaw06_WalksErrors_L1 N m (F22 + 1) x23 = some q19 := hd1; rw [gauntletlaw06_WalksErrors_L1] at hd1
        refine wg_seq ?_
        refine wg_seq ?_
        refine wg_region ?_
        refine wo_v rfl (val_move (v := (.int .i64 x23)) rfl) ?_
        refine wo_fieldR rfl fd27_2 pt_Mach2 rfl (h2.mono ((le8.trans le12).trans le25)) fun v26 h27 => ?_
        refine wo_loadR rfl ty25 rfl h27 fun v28 h29 => ?_
        refine wo_v rfl (val_lenR rfl Try.underlying25 rfl (sl_s h29)) ?_
        refine wo_v rfl (val_lss rfl rfl) ?_
        refine wo_nil ?_
        refine wg_cond rfl (fun e30 => ?_) (fun e30 => ?_)
        · replace hd1 := sel_t e30 hd1; clear e30
          as_aux_lemma =>
            refine wg_skip ?_
            refine wg_seq ?_
            refine wg_block ?_
            refine wg_seq ?_
            refine wg_region ?_
            refine wo_fieldR rfl fd27_2 pt_Mach2 rfl (h2.mono ((le8.trans le12).trans le25)) fun v31 h32 => ?_
            refine wo_loadR rfl ty25 rfl h32 fun v33 h34 => ?_
            refine wo_v rfl (val_move (v := (.int .i64 x23)) rfl) ?_
            have g35 := (gd_some hd1).1; replace hd1 := (gd_some hd1).2
            refine wo_indexR (i := x23.toNat) rfl sl25 rfl (sl_s h34) (idx_nonneg rfl g35.1) (okI_lt g35) fun v36 h37 => ?_
            refine wo_loadR rfl ty50 rfl h37 fun v38 h39 => ?_
            refine wo_v rfl (val_lenR rfl Try.underlying50 rfl (sl_s h39)) ?_
            refine wo_v rfl (val_gtr rfl rfl) ?_
            refine wo_nil ?_
            refine wg_cond rfl (fun e40 => ?_) (fun e40 => ?_)
            · replace hd1 := sel_t e40 hd1; clear e40
              as_aux_lemma =>
                refine wg_seq ?_
                refine wg_region ?_
                refine wo_v rfl (val_assign (v := (.bool true)) rfl) ?_
                refine wo_nil ?_
                refine wg_ret ?_
                replace hd0 := on_rt hd1 hd0
                obtain rfl := Option.some.inj hd0
                refine body_end (D := []) (J := []) (rs := [.tmp 6]) (vs := [(.bool true)]) (((le4.trans le8).trans le12).trans le25) rfl rfl ⟨rfl, trivial⟩ ?_
                exact ⟨rfl, rfl⟩
            · replace hd1 := sel_f e40 hd1; clear e40
              as_aux_lemma =>
                refine wg_skip ?_
                refine wg_region ?_
                refine wo_v rfl (val_move (v := (.int .i64 x23)) rfl) ?_
                have g41 := (gd_some hd1).1; replace hd1 := (gd_some hd1).2
                refine wo_v rfl (val_add rfl rfl g41) ?_
                refine wo_v rfl (val_assign (v := (.int .i64 (x23 + 1))) rfl) ?_
                refine wo_nil ?_
                exact ⟨(fun _ => rfl), (RH.le.refl _), (by repeat (first | exact off_self | refine off_upd rfl ?_ | refine off_setl rfl ?_ | refine off_mask_sub rfl ?_)), (F22, x23 + 1), Nat.lt_succ_self _, ⟨rfl, trivial⟩, ⟨[], List.Perm.refl _⟩, hd1, trivial⟩
        · replace hd1 := sel_f e30 hd1; clear e30
          refine wg_exit ?_
          exact ⟨(fun _ => rfl), le25, (by repeat (first | exact off_self | refine off_upd rfl ?_ | refine off_setl rfl ?_ | refine off_mask_sub rfl ?_)), (), trivial, ⟨[], List.Perm.refl _⟩, (Option.some.inj hd1).symm, trivial⟩
      ·
        rintro o18 j45 D46 R20 hD47 le21 ⟨rfl, _⟩
        obtain rfl := hD47 rfl
        replace hd0 := on_go hd0
        refine wg_seq ?_
        refine wg_region ?_
        refine wo_loadR rfl ty27 rfl (h2.mono ((le8.trans le12).trans le21)) fun v48 h49 => ?_
        replace hd0 := bd_some hd0; obtain ⟨y50, c51, hd0⟩ := hd0
        refine wo_callP rfl en33 rfl (c_gauntletref04_Check h49 c51) fun v52 R54 le55 h53 => ?_
        obtain rfl := h53
        refine wo_v rfl (val_assign (v := (.int .i64 y50)) rfl) ?_
        refine wo_nil ?_
        refine wg_seq ?_
        refine wg_region ?_
        refine wo_v rfl (val_move (v := (.int .i64 y50)) rfl) ?_
        refine wo_v rfl (val_assign (v := (.int .i64 y50)) rfl) ?_
        refine wo_nil ?_
        replace hd0 := bd_some hd0; obtain ⟨o56, hd1, hd0⟩ := hd0
        refine wg_meet (γ := Int) true [51, 52, 53, 54, 55, 56, 57, 58, 59, 60, 61, 62, 63, 64, 65, 9] (fun g => [(9, (.int .i64 g))]) (fun g => [] ++ A) (fun g R => o56 = g ∧ True) ?_ ?_
        ·
          refine wg_seq ?_
          refine wg_guarded 15 [] [phX (.int .i64 y50), phX (.bool (decide (y50 = 0))), phX (.bool (decide (y50 = 0))), phG (true && ((decide (y50 = 0)) == true)) (phP (tInt .i64) z.1), phG (true && ((decide (y50 = 0)) == true)) (phX (.int .i64 z.1)), phG (true && ((decide (y50 = 0)) == true)) (phX (.bool (decide (z.1 < 0)))), phG (true && ((decide (y50 = 0)) == true)) (phX (.bool (decide (z.1 < 0)))), phG ((true && ((decide (y50 = 0)) == true)) && ((decide (z.1 < 0)) == false)) (phP (tInt .i64) z.1), phG ((true && ((decide (y50 = 0)) == true)) && ((decide (z.1 < 0)) == false)) (phX (.int .i64 z.1)), phG ((true && ((decide (y50 = 0)) == true)) && ((decide (z.1 < 0)) == false)) (phP (tSl false (tSl false kEdge)) m.rows), phG ((true && ((decide (y50 = 0)) == true)) && ((decide (z.1 < 0)) == false)) (phR (tSl false (tSl false kEdge)) m.rows), phG ((true && ((decide (y50 = 0)) == true)) && ((decide (z.1 < 0)) == false)) (phX (.int .i64 (↑m.rows.length : Int))), phG ((true && ((decide (y50 = 0)) == true)) && ((decide (z.1 < 0)) == false)) (phX (.bool (decide ((↑m.rows.length : Int) ≤ z.1)))), phG (true && ((decide (y50 = 0)) == true)) (phX (.bool ((decide (z.1 < 0)) || (decide ((↑m.rows.length : Int) ≤ z.1))))), phX (.bool ((decide (y50 = 0)) && ((decide (z.1 < 0)) || (decide ((↑m.rows.length : Int) ≤ z.1)))))] (by as_aux_lemma => kernel_rfl) (by as_aux_lemma => kernel_rfl) (monoOk_of ⟨mono_x, mono_x, mono_x, (mono_g mono_p), (mono_g mono_x), (mono_g mono_x), (mono_g mono_x), (mono_g mono_p), (mono_g mono_x), (mono_g mono_p), (mono_g mono_r), (mono_g mono_x), (mono_g mono_x), (mono_g mono_x), mono_x, trivial⟩) ⟨?_, ?_, ?_, ?_, ?_, ?_, ?_, ?_, ?_, ?_, ?_, ?_, ?_, ?_, ?_, trivial⟩ fun R59 le60 => ?_
          · intro l R0q hle ha hd
            have a9 : l 9 = (.int .i64 y50) := ha 9 rfl
            exact gstep_plain rfl rfl rfl (ph_val (val_move a9))
          · intro l R1q hle ha hd
            obtain ⟨d0, _⟩ := hd
            have f51 : l 51 = (.int .i64 y50) := d0 rfl
            exact gstep_plain rfl rfl rfl (ph_val (val_eql f51 rfl))
          · intro l R2q hle ha hd
            obtain ⟨d0, _⟩ := hd
            have f52 : l 52 = (.bool (decide (y50 = 0))) := d0 rfl
            exact gstep_plain rfl rfl rfl (ph_val (val_move f52))
          · intro l R3q hle ha hd
            obtain ⟨d0, _⟩ := hd
            have a5 : l 5 = v9 := ha 5 rfl
            exact gstep_guard (Gj := true) (Bj := decide (y50 = 0)) rfl rfl rfl (gtrue (d0 rfl)) rfl (fun hG hB => ph_indexAR (i := 0) ar73 pt_A2tInti640 a5 ((h10.mono (le21.trans le55)).mono hle) rfl (by decide))
          · intro l R4q hle ha hd
            obtain ⟨d0, d1, _⟩ := hd
            have f54g : phG (true && ((decide (y50 = 0)) == true)) (phP (tInt .i64) z.1) (l 54) R4q := d0 rfl
            exact gstep_guard (Gj := true) (Bj := decide (y50 = 0)) rfl rfl rfl (gtrue (d1 rfl)) rfl (fun hG hB => ph_exact (ph_loadR ty3 rfl (f54g.1 (gandT rfl hB))) (fun _ _ h => vrep_int.1 h))
          · intro l R5q hle ha hd
            obtain ⟨d0, d1, _⟩ := hd
            have f55g : phG (true && ((decide (y50 = 0)) == true)) (phX (.int .i64 z.1)) (l 55) R5q := d0 rfl
            exact gstep_guard (Gj := true) (Bj := decide (y50 = 0)) rfl rfl rfl (gtrue (d1 rfl)) rfl (fun hG hB => ph_val (val_lss (show l 55 = (.int .i64 z.1) from f55g.1 (gandT rfl hB)) rfl))
          · intro l R6q hle ha hd
            obtain ⟨d0, d1, d2, _⟩ := hd
            have f56g : phG (true && ((decide (y50 = 0)) == true)) (phX (.bool (decide (z.1 < 0)))) (l 56) R6q := d0 rfl
            exact gstep_guard (Gj := true) (Bj := decide (y50 = 0)) rfl rfl rfl (gtrue (d1 rfl)) rfl (fun hG hB => ph_val (val_move (show l 56 = (.bool (decide (z.1 < 0))) from f56g.1 (gandT rfl hB))))
          · intro l R7q hle ha hd
            obtain ⟨d0, _⟩ := hd
            have a5 : l 5 = v9 := ha 5 rfl
            exact gstep_guard (Gj := (true && ((decide (y50 = 0)) == true))) (Bj := decide (z.1 < 0)) rfl rfl rfl (d0 rfl) rfl (fun hG hB => ph_indexAR (i := 0) ar73 pt_A2tInti640 a5 ((h10.mono (le21.trans le55)).mono hle) rfl (by decide))
          · intro l R8q hle ha hd
            obtain ⟨d0, d1, _⟩ := hd
            have f58g : phG ((true && ((decide (y50 = 0)) == true)) && ((decide (z.1 < 0)) == false)) (phP (tInt .i64) z.1) (l 58) R8q := d0 rfl
            exact gstep_guard (Gj := (true && ((decide (y50 = 0)) == true))) (Bj := decide (z.1 < 0)) rfl rfl rfl (d1 rfl) rfl (fun hG hB => ph_exact (ph_loadR ty3 rfl (f58g.1 (gandT hG hB))) (fun _ _ h => vrep_int.1 h))
          · intro l R9q hle ha hd
            obtain ⟨d0, _⟩ := hd
            have a3 : l 3 = v1 := ha 3 rfl
            exact gstep_guard (Gj := (true && ((decide (y50 = 0)) == true))) (Bj := decide (z.1 < 0)) rfl rfl rfl (d0 rfl) rfl (fun hG hB => ph_fieldR fd27_2 pt_Mach2 a3 ((h2.mono (((le8.trans le12).trans le21).trans le55)).mono hle))
          · intro l R10q hle ha hd
            obtain ⟨d0, d1, _⟩ := hd
            have f60g : phG ((true && ((decide (y50 = 0)) == true)) && ((decide (z.1 < 0)) == false)) (phP (tSl false (tSl false kEdge)) m.rows) (l 60) R10q := d0 rfl
            exact gstep_guard (Gj := (true && ((decide (y50 = 0)) == true))) (Bj := decide (z.1 < 0)) rfl rfl rfl (d1 rfl) rfl (fun hG hB => ph_loadR ty25 rfl (f60g.1 (gandT hG hB)))
          · intro l R11q hle ha hd
            obtain ⟨d0, d1, _⟩ := hd
            have f61g : phG ((true && ((decide (y50 = 0)) == true)) && ((decide (z.1 < 0)) == false)) (phR (tSl false (tSl false kEdge)) m.rows) (l 61) R11q := d0 rfl
            exact gstep_guard (Gj := (true && ((decide (y50 = 0)) == true))) (Bj := decide (z.1 < 0)) rfl rfl rfl (d1 rfl) rfl (fun hG hB => ph_val (val_lenR rfl Try.underlying25 rfl (sl_s (f61g.1 (gandT hG hB)))))
          · intro l R12q hle ha hd
            obtain ⟨d0, d1, d2, _⟩ := hd
            have f59g : phG ((true && ((decide (y50 = 0)) == true)) && ((decide (z.1 < 0)) == false)) (phX (.int .i64 z.1)) (l 59) R12q := d0 rfl
            have f62g : phG ((true && ((decide (y50 = 0)) == true)) && ((decide (z.1 < 0)) == false)) (phX (.int .i64 (↑m.rows.length : Int))) (l 62) R12q := d1 rfl
            exact gstep_guard (Gj := (true && ((decide (y50 = 0)) == true))) (Bj := decide (z.1 < 0)) rfl rfl rfl (d2 rfl) rfl (fun hG hB => ph_val (val_geq (show l 59 = (.int .i64 z.1) from f59g.1 (gandT hG hB)) (show l 62 = (.int .i64 (↑m.rows.length : Int)) from f62g.1 (gandT hG hB))))
          · intro l R13q hle ha hd
            obtain ⟨d0, d1, d2, _⟩ := hd
            have f57g : phG (true && ((decide (y50 = 0)) == true)) (phX (.bool (decide (z.1 < 0)))) (l 57) R13q := d0 rfl
            have f63g : phG ((true && ((decide (y50 = 0)) == true)) && ((decide (z.1 < 0)) == false)) (phX (.bool (decide ((↑m.rows.length : Int) ≤ z.1)))) (l 63) R13q := d1 rfl
            exact gstep_guard (Gj := true) (Bj := decide (y50 = 0)) rfl rfl rfl (gtrue (d2 rfl)) rfl (fun hG hB => ph_val (val_or (show l 57 = (.bool (decide (z.1 < 0))) from f57g.1 (gandT rfl hB)) rfl (fun hb => (show l 63 = (.bool (decide ((↑m.rows.length : Int) ≤ z.1))) from f63g.1 (gandT (gandT rfl hB) hb)))))
          · intro l R14q hle ha hd
            obtain ⟨d0, d1, _⟩ := hd
            have f53 : l 53 = (.bool (decide (y50 = 0))) := d0 rfl
            have f64g : phG (true && ((decide (y50 = 0)) == true)) (phX (.bool ((decide (z.1 < 0)) || (decide ((↑m.rows.length : Int) ≤ z.1))))) (l 64) R14q := d1 rfl
            exact gstep_plain rfl rfl rfl (ph_val (val_and f53 (fun hb => (show l 64 = (.bool ((decide (z.1 < 0)) || (decide ((↑m.rows.length : Int) ≤ z.1)))) from f64g.1 (gandT rfl hb))) rfl))
          intro v61 h62
          intro v63 h64
          intro v65 h66
          intro v67 h68
          intro v69 h70
          intro v71 h72
          intro v73 h74
          intro v75 h76
          intro v77 h78
          intro v79 h80
          intro v81 h82
          intro v83 h84
          intro v85 h86
          intro v87 h88
          intro v89 h90
          obtain rfl := Eq.symm h62
          obtain rfl := Eq.symm h64
          obtain rfl := Eq.symm h66
          obtain rfl := Eq.symm h90
          refine wo_nil ?_
          refine wg_cond rfl (fun e91 => ?_) (fun e91 => ?_)
          · replace hd1 := sel_t e91 hd1; clear e91
            as_aux_lemma =>
              refine wg_region ?_
              refine wo_v rfl (val_assign (v := (.int .i64 1)) rfl) ?_
              refine wo_nil ?_
              exact ⟨(fun _ => rfl), le60, (by repeat (first | exact off_self | refine off_upd rfl ?_ | refine off_setl rfl ?_ | refine off_mask_sub rfl ?_)), 1, ⟨rfl, trivial⟩, ⟨[], List.Perm.refl _⟩, (Option.some.inj hd1).symm, trivial⟩
          · replace hd1 := sel_f e91 hd1; clear e91
            as_aux_lemma =>
              refine wg_skip ?_
              exact ⟨(fun _ => rfl), le60, (by repeat (first | exact off_self | refine off_upd rfl ?_ | refine off_setl rfl ?_ | refine off_mask_sub rfl ?_)), y50, ⟨rfl, trivial⟩, ⟨[], List.Perm.refl _⟩, (Option.some.inj hd1).symm, trivial⟩
        ·
          rintro o56 j92 D93 R57 hD94 le58 ⟨rfl, _⟩
          obtain rfl := hD94 rfl
          refine wg_seq ?_
          refine wg_region ?_
          refine wo_loadR rfl ty27 rfl (h2.mono ((((le8.trans le12).trans le21).trans le55).trans le58)) fun v95 h96 => ?_
          refine wo_indexAR (i := 0) rfl ar73 pt_A2tInti640 rfl (h10.mono ((le21.trans le55).trans le58)) rfl (by decide) fun v97 h98 => ?_
          refine wo_loadR rfl ty3 rfl h98 fun v99 h100 => ?_
          obtain rfl := vrep_int.1 h100
          replace hd0 := bd_some hd0; obtain ⟨y101, c102, hd0⟩ := hd0
          refine wo_callP rfl en20 rfl (c_walks_Distances h96 c102) fun v103 R105 le106 h104 => ?_
          obtain ⟨v107, rfl, h108⟩ := h104
          refine wo_v rfl (val_move (v := (.tuple #[v107, (.int .i64 y101.2)])) rfl) ?_
          refine wo_v rfl (val_extract rfl rfl) ?_
          refine wo_v rfl (val_extract rfl rfl) ?_
          refine wo_v rfl (val_assign (v := v107) rfl) ?_
          refine wo_v rfl (val_assign (v := (.int .i64 y101.2)) rfl) ?_
          refine wo_nil ?_
          refine wg_seq ?_
          refine wg_seq ?_
          refine wg_guarded 12 [] [phX (.int .i64 y101.2), phX (.int .i64 o56), phX (.bool (decide (y101.2 ≠ o56))), phX (.bool (decide (y101.2 ≠ o56))), phG (true && ((decide (y101.2 ≠ o56)) == false)) (phX (.int .i64 o56)), phG (true && ((decide (y101.2 ≠ o56)) == false)) (phX (.bool (decide (o56 ≠ 0)))), phG (true && ((decide (y101.2 ≠ o56)) == false)) (phX (.bool (decide (o56 ≠ 0)))), phG ((true && ((decide (y101.2 ≠ o56)) == false)) && ((decide (o56 ≠ 0)) == true)) (phX v107), phG ((true && ((decide (y101.2 ≠ o56)) == false)) && ((decide (o56 ≠ 0)) == true)) (phX (.int .i64 (↑y101.1.length : Int))), phG ((true && ((decide (y101.2 ≠ o56)) == false)) && ((decide (o56 ≠ 0)) == true)) (phX (.bool (decide ((↑y101.1.length : Int) ≠ 0)))), phG (true && ((decide (y101.2 ≠ o56)) == false)) (phX (.bool ((decide (o56 ≠ 0)) && (decide ((↑y101.1.length : Int) ≠ 0))))), phX (.bool ((decide (y101.2 ≠ o56)) || ((decide (o56 ≠ 0)) && (decide ((↑y101.1.length : Int) ≠ 0)))))] (by as_aux_lemma => kernel_rfl) (by as_aux_lemma => kernel_rfl) (monoOk_of ⟨mono_x, mono_x, mono_x, mono_x, (mono_g mono_x), (mono_g mono_x), (mono_g mono_x), (mono_g mono_x), (mono_g mono_x), (mono_g mono_x), (mono_g mono_x), mono_x, trivial⟩) ⟨?_, ?_, ?_, ?_, ?_, ?_, ?_, ?_, ?_, ?_, ?_, ?_, trivial⟩ fun R109 le110 => ?_
          · intro l R0q hle ha hd
            have a11 : l 11 = (.int .i64 y101.2) := ha 11 rfl
            exact gstep_plain rfl rfl rfl (ph_val (val_move a11))
          · intro l R1q hle ha hd
            have a9 : l 9 = (.int .i64 o56) := ha 9 rfl
            exact gstep_plain rfl rfl rfl (ph_val (val_move a9))
          · intro l R2q hle ha hd
            obtain ⟨d0, d1, _⟩ := hd
            have f73 : l 73 = (.int .i64 y101.2) := d0 rfl
            have f74 : l 74 = (.int .i64 o56) := d1 rfl
            exact gstep_plain rfl rfl rfl (ph_val (val_neq f73 f74))
          · intro l R3q hle ha hd
            obtain ⟨d0, _⟩ := hd
            have f75 : l 75 = (.bool (decide (y101.2 ≠ o56))) := d0 rfl
            exact gstep_plain rfl rfl rfl (ph_val (val_move f75))
          · intro l R4q hle ha hd
            obtain ⟨d0, _⟩ := hd
            have a9 : l 9 = (.int .i64 o56) := ha 9 rfl
            exact gstep_guard (Gj := true) (Bj := decide (y101.2 ≠ o56)) rfl rfl rfl (gtrue (d0 rfl)) rfl (fun hG hB => ph_val (val_move a9))
          · intro l R5q hle ha hd
            obtain ⟨d0, d1, _⟩ := hd
            have f77g : phG (true && ((decide (y101.2 ≠ o56)) == false)) (phX (.int .i64 o56)) (l 77) R5q := d0 rfl
            exact gstep_guard (Gj := true) (Bj := decide (y101.2 ≠ o56)) rfl rfl rfl (gtrue (d1 rfl)) rfl (fun hG hB => ph_val (val_neq (show l 77 = (.int .i64 o56) from f77g.1 (gandT rfl hB)) rfl))
          · intro l R6q hle ha hd
            obtain ⟨d0, d1, d2, _⟩ := hd
            have f78g : phG (true && ((decide (y101.2 ≠ o56)) == false)) (phX (.bool (decide (o56 ≠ 0)))) (l 78) R6q := d0 rfl
            exact gstep_guard (Gj := true) (Bj := decide (y101.2 ≠ o56)) rfl rfl rfl (gtrue (d1 rfl)) rfl (fun hG hB => ph_val (val_move (show l 78 = (.bool (decide (o56 ≠ 0))) from f78g.1 (gandT rfl hB))))
          · intro l R7q hle ha hd
            obtain ⟨d0, _⟩ := hd
            have a10 : l 10 = v107 := ha 10 rfl
            exact gstep_guard (Gj := (true && ((decide (y101.2 ≠ o56)) == false))) (Bj := decide (o56 ≠ 0)) rfl rfl rfl (d0 rfl) rfl (fun hG hB => ph_val (val_move a10))
          · intro l R8q hle ha hd
            obtain ⟨d0, d1, _⟩ := hd
            have f80g : phG ((true && ((decide (y101.2 ≠ o56)) == false)) && ((decide (o56 ≠ 0)) == true)) (phX v107) (l 80) R8q := d0 rfl
            exact gstep_guard (Gj := (true && ((decide (y101.2 ≠ o56)) == false))) (Bj := decide (o56 ≠ 0)) rfl rfl rfl (d1 rfl) rfl (fun hG hB => ph_val (val_lenR rfl Try.underlying36 (show l 80 = v107 from f80g.1 (gandT hG hB)) (sl_s (h108.mono hle))))
          · intro l R9q hle ha hd
            obtain ⟨d0, d1, _⟩ := hd
            have f81g : phG ((true && ((decide (y101.2 ≠ o56)) == false)) && ((decide (o56 ≠ 0)) == true)) (phX (.int .i64 (↑y101.1.length : Int))) (l 81) R9q := d0 rfl
            exact gstep_guard (Gj := (true && ((decide (y101.2 ≠ o56)) == false))) (Bj := decide (o56 ≠ 0)) rfl rfl rfl (d1 rfl) rfl (fun hG hB => ph_val (val_neq (show l 81 = (.int .i64 (↑y101.1.length : Int)) from f81g.1 (gandT hG hB)) rfl))
          · intro l R10q hle ha hd
            obtain ⟨d0, d1, d2, _⟩ := hd
            have f79g : phG (true && ((decide (y101.2 ≠ o56)) == false)) (phX (.bool (decide (o56 ≠ 0)))) (l 79) R10q := d0 rfl
            have f82g : phG ((true && ((decide (y101.2 ≠ o56)) == false)) && ((decide (o56 ≠ 0)) == true)) (phX (.bool (decide ((↑y101.1.length : Int) ≠ 0)))) (l 82) R10q := d1 rfl
            exact gstep_guard (Gj := true) (Bj := decide (y101.2 ≠ o56)) rfl rfl rfl (gtrue (d2 rfl)) rfl (fun hG hB => ph_val (val_and (show l 79 = (.bool (decide (o56 ≠ 0))) from f79g.1 (gandT rfl hB)) (fun hb => (show l 82 = (.bool (decide ((↑y101.1.length : Int) ≠ 0))) from f82g.1 (gandT (gandT rfl hB) hb))) rfl))
          · intro l R11q hle ha hd
            obtain ⟨d0, d1, _⟩ := hd
            have f76 : l 76 = (.bool (decide (y101.2 ≠ o56))) := d0 rfl
            have f83g : phG (true && ((decide (y101.2 ≠ o56)) == false)) (phX (.bool ((decide (o56 ≠ 0)) && (decide ((↑y101.1.length : Int) ≠ 0))))) (l 83) R11q := d1 rfl
            exact gstep_plain rfl rfl rfl (ph_val (val_or f76 rfl (fun hb => (show l 83 = (.bool ((decide (o56 ≠ 0)) && (decide ((↑y101.1.length : Int) ≠ 0)))) from f83g.1 (gandT rfl hb)))))
          intro v111 h112
          intro v113 h114
          intro v115 h116
          intro v117 h118
          intro v119 h120
          intro v121 h122
          intro v123 h124
          intro v125 h126
          intro v127 h128
          intro v129 h130
          intro v131 h132
          intro v133 h134
          obtain rfl := Eq.symm h112
          obtain rfl := Eq.symm h114
          obtain rfl := Eq.symm h116
          obtain rfl := Eq.symm h118
          obtain rfl := Eq.symm h134
          refine wo_nil ?_
          refine wg_cond rfl (fun e135 => ?_) (fun e135 => ?_)
          · replace hd0 := sel_t e135 hd0; clear e135
            as_aux_lemma =>
              refine wg_seq ?_
              refine wg_region ?_
              refine wo_v rfl (val_assign (v := (.bool false)) rfl) ?_
              refine wo_nil ?_
              refine wg_ret ?_
              obtain rfl := Option.some.inj hd0
              refine body_end (D := []) (J := []) (rs := [.tmp 6]) (vs := [(.bool false)]) (((((((le4.trans le8).trans le12).trans le21).trans le55).trans le58).trans le106).trans le110) rfl rfl ⟨rfl, trivial⟩ ?_
              exact ⟨rfl, rfl⟩
          · replace hd0 := sel_f e135 hd0; clear e135
            as_aux_lemma =>
              refine wg_skip ?_
              replace hd0 := bd_some hd0; obtain ⟨o136, hd1, hd0⟩ := hd0
              refine wg_meet (γ := Int) true [85, 86, 87, 88, 89, 90, 91, 92, 93, 94, 95, 96, 97, 98, 99, 9] (fun g => [(9, (.int .i64 g))]) (fun g => [] ++ A) (fun g R => o136 = g ∧ True) ?_ ?_
              ·
                refine wg_seq ?_
                refine wg_guarded 15 [] [phX (.int .i64 o56), phX (.bool (decide (o56 = 0))), phX (.bool (decide (o56 = 0))), phG (true && ((decide (o56 = 0)) == true)) (phP (tInt .i64) z.2), phG (true && ((decide (o56 = 0)) == true)) (phX (.int .i64 z.2)), phG (true && ((decide (o56 = 0)) == true)) (phX (.bool (decide (z.2 < 0)))), phG (true && ((decide (o56 = 0)) == true)) (phX (.bool (decide (z.2 < 0)))), phG ((true && ((decide (o56 = 0)) == true)) && ((decide (z.2 < 0)) == false)) (phP (tInt .i64) z.2), phG ((true && ((decide (o56 = 0)) == true)) && ((decide (z.2 < 0)) == false)) (phX (.int .i64 z.2)), phG ((true && ((decide (o56 = 0)) == true)) && ((decide (z.2 < 0)) == false)) (phP (tSl false (tSl false kEdge)) m.rows), phG ((true && ((decide (o56 = 0)) == true)) && ((decide (z.2 < 0)) == false)) (phR (tSl false (tSl false kEdge)) m.rows), phG ((true && ((decide (o56 = 0)) == true)) && ((decide (z.2 < 0)) == false)) (phX (.int .i64 (↑m.rows.length : Int))), phG ((true && ((decide (o56 = 0)) == true)) && ((decide (z.2 < 0)) == false)) (phX (.bool (decide ((↑m.rows.length : Int) ≤ z.2)))), phG (true && ((decide (o56 = 0)) == true)) (phX (.bool ((decide (z.2 < 0)) || (decide ((↑m.rows.length : Int) ≤ z.2))))), phX (.bool ((decide (o56 = 0)) && ((decide (z.2 < 0)) || (decide ((↑m.rows.length : Int) ≤ z.2)))))] (by as_aux_lemma => kernel_rfl) (by as_aux_lemma => kernel_rfl) (monoOk_of ⟨mono_x, mono_x, mono_x, (mono_g mono_p), (mono_g mono_x), (mono_g mono_x), (mono_g mono_x), (mono_g mono_p), (mono_g mono_x), (mono_g mono_p), (mono_g mono_r), (mono_g mono_x), (mono_g mono_x), (mono_g mono_x), mono_x, trivial⟩) ⟨?_, ?_, ?_, ?_, ?_, ?_, ?_, ?_, ?_, ?_, ?_, ?_, ?_, ?_, ?_, trivial⟩ fun R139 le140 => ?_
                · intro l R0q hle ha hd
                  have a9 : l 9 = (.int .i64 o56) := ha 9 rfl
                  exact gstep_plain rfl rfl rfl (ph_val (val_move a9))
                · intro l R1q hle ha hd
                  obtain ⟨d0, _⟩ := hd
                  have f85 : l 85 = (.int .i64 o56) := d0 rfl
                  exact gstep_plain rfl rfl rfl (ph_val (val_eql f85 rfl))
                · intro l R2q hle ha hd
                  obtain ⟨d0, _⟩ := hd
                  have f86 : l 86 = (.bool (decide (o56 = 0))) := d0 rfl
                  exact gstep_plain rfl rfl rfl (ph_val (val_move f86))
                · intro l R3q hle ha hd
                  obtain ⟨d0, _⟩ := hd
                  have a5 : l 5 = v9 := ha 5 rfl
                  exact gstep_guard (Gj := true) (Bj := decide (o56 = 0)) rfl rfl rfl (gtrue (d0 rfl)) rfl (fun hG hB => ph_indexAR (i := 1) ar73 pt_A2tInti641 a5 ((h10.mono ((((le21.trans le55).trans le58).trans le106).trans le110)).mono hle) rfl (by decide))
                · intro l R4q hle ha hd
                  obtain ⟨d0, d1, _⟩ := hd
                  have f88g : phG (true && ((decide (o56 = 0)) == true)) (phP (tInt .i64) z.2) (l 88) R4q := d0 rfl
                  exact gstep_guard (Gj := true) (Bj := decide (o56 = 0)) rfl rfl rfl (gtrue (d1 rfl)) rfl (fun hG hB => ph_exact (ph_loadR ty3 rfl (f88g.1 (gandT rfl hB))) (fun _ _ h => vrep_int.1 h))
                · intro l R5q hle ha hd
                  obtain ⟨d0, d1, _⟩ := hd
                  have f89g : phG (true && ((decide (o56 = 0)) == true)) (phX (.int .i64 z.2)) (l 89) R5q := d0 rfl
                  exact gstep_guard (Gj := true) (Bj := decide (o56 = 0)) rfl rfl rfl (gtrue (d1 rfl)) rfl (fun hG hB => ph_val (val_lss (show l 89 = (.int .i64 z.2) from f89g.1 (gandT rfl hB)) rfl))
                · intro l R6q hle ha hd
                  obtain ⟨d0, d1, d2, _⟩ := hd
                  have f90g : phG (true && ((decide (o56 = 0)) == true)) (phX (.bool (decide (z.2 < 0)))) (l 90) R6q := d0 rfl
                  exact gstep_guard (Gj := true) (Bj := decide (o56 = 0)) rfl rfl rfl (gtrue (d1 rfl)) rfl (fun hG hB => ph_val (val_move (show l 90 = (.bool (decide (z.2 < 0))) from f90g.1 (gandT rfl hB))))
                · intro l R7q hle ha hd
                  obtain ⟨d0, _⟩ := hd
                  have a5 : l 5 = v9 := ha 5 rfl
                  exact gstep_guard (Gj := (true && ((decide (o56 = 0)) == true))) (Bj := decide (z.2 < 0)) rfl rfl rfl (d0 rfl) rfl (fun hG hB => ph_indexAR (i := 1) ar73 pt_A2tInti641 a5 ((h10.mono ((((le21.trans le55).trans le58).trans le106).trans le110)).mono hle) rfl (by decide))
                · intro l R8q hle ha hd
                  obtain ⟨d0, d1, _⟩ := hd
                  have f92g : phG ((true && ((decide (o56 = 0)) == true)) && ((decide (z.2 < 0)) == false)) (phP (tInt .i64) z.2) (l 92) R8q := d0 rfl
                  exact gstep_guard (Gj := (true && ((decide (o56 = 0)) == true))) (Bj := decide (z.2 < 0)) rfl rfl rfl (d1 rfl) rfl (fun hG hB => ph_exact (ph_loadR ty3 rfl (f92g.1 (gandT hG hB))) (fun _ _ h => vrep_int.1 h))
                · intro l R9q hle ha hd
                  obtain ⟨d0, _⟩ := hd
                  have a3 : l 3 = v1 := ha 3 rfl
                  exact gstep_guard (Gj := (true && ((decide (o56 = 0)) == true))) (Bj := decide (z.2 < 0)) rfl rfl rfl (d0 rfl) rfl (fun hG hB => ph_fieldR fd27_2 pt_Mach2 a3 ((h2.mono ((((((le8.trans le12).trans le21).trans le55).trans le58).trans le106).trans le110)).mono hle))
                · intro l R10q hle ha hd
                  obtain ⟨d0, d1, _⟩ := hd
                  have f94g : phG ((true && ((decide (o56 = 0)) == true)) && ((decide (z.2 < 0)) == false)) (phP (tSl false (tSl false kEdge)) m.rows) (l 94) R10q := d0 rfl
                  exact gstep_guard (Gj := (true && ((decide (o56 = 0)) == true))) (Bj := decide (z.2 < 0)) rfl rfl rfl (d1 rfl) rfl (fun hG hB => ph_loadR ty25 rfl (f94g.1 (gandT hG hB)))
                · intro l R11q hle ha hd
                  obtain ⟨d0, d1, _⟩ := hd
                  have f95g : phG ((true && ((decide (o56 = 0)) == true)) && ((decide (z.2 < 0)) == false)) (phR (tSl false (tSl false kEdge)) m.rows) (l 95) R11q := d0 rfl
                  exact gstep_guard (Gj := (true && ((decide (o56 = 0)) == true))) (Bj := decide (z.2 < 0)) rfl rfl rfl (d1 rfl) rfl (fun hG hB => ph_val (val_lenR rfl Try.underlying25 rfl (sl_s (f95g.1 (gandT hG hB)))))
                · intro l R12q hle ha hd
                  obtain ⟨d0, d1, d2, _⟩ := hd
                  have f93g : phG ((true && ((decide (o56 = 0)) == true)) && ((decide (z.2 < 0)) == false)) (phX (.int .i64 z.2)) (l 93) R12q := d0 rfl
                  have f96g : phG ((true && ((decide (o56 = 0)) == true)) && ((decide (z.2 < 0)) == false)) (phX (.int .i64 (↑m.rows.length : Int))) (l 96) R12q := d1 rfl
                  exact gstep_guard (Gj := (true && ((decide (o56 = 0)) == true))) (Bj := decide (z.2 < 0)) rfl rfl rfl (d2 rfl) rfl (fun hG hB => ph_val (val_geq (show l 93 = (.int .i64 z.2) from f93g.1 (gandT hG hB)) (show l 96 = (.int .i64 (↑m.rows.length : Int)) from f96g.1 (gandT hG hB))))
                · intro l R13q hle ha hd
                  obtain ⟨d0, d1, d2, _⟩ := hd
                  have f91g : phG (true && ((decide (o56 = 0)) == true)) (phX (.bool (decide (z.2 < 0)))) (l 91) R13q := d0 rfl
                  have f97g : phG ((true && ((decide (o56 = 0)) == true)) && ((decide (z.2 < 0)) == false)) (phX (.bool (decide ((↑m.rows.length : Int) ≤ z.2)))) (l 97) R13q := d1 rfl
                  exact gstep_guard (Gj := true) (Bj := decide (o56 = 0)) rfl rfl rfl (gtrue (d2 rfl)) rfl (fun hG hB => ph_val (val_or (show l 91 = (.bool (decide (z.2 < 0))) from f91g.1 (gandT rfl hB)) rfl (fun hb => (show l 97 = (.bool (decide ((↑m.rows.length : Int) ≤ z.2))) from f97g.1 (gandT (gandT rfl hB) hb)))))
                · intro l R14q hle ha hd
                  obtain ⟨d0, d1, _⟩ := hd
                  have f87 : l 87 = (.bool (decide (o56 = 0))) := d0 rfl
                  have f98g : phG (true && ((decide (o56 = 0)) == true)) (phX (.bool ((decide (z.2 < 0)) || (decide ((↑m.rows.length : Int) ≤ z.2))))) (l 98) R14q := d1 rfl
                  exact gstep_plain rfl rfl rfl (ph_val (val_and f87 (fun hb => (show l 98 = (.bool ((decide (z.2 < 0)) || (decide ((↑m.rows.length : Int) ≤ z.2)))) from f98g.1 (gandT rfl hb))) rfl))
                intro v141 h142
                intro v143 h144
                intro v145 h146
                intro v147 h148
                intro v149 h150
                intro v151 h152
                intro v153 h154
                intro v155 h156
                intro v157 h158
                intro v159 h160
                intro v161 h162
                intro v163 h164
                intro v165 h166
                intro v167 h168
                intro v169 h170
                obtain rfl := Eq.symm h142
                obtain rfl := Eq.symm h144
                obtain rfl := Eq.symm h146
                obtain rfl := Eq.symm h170
                refine wo_nil ?_
                refine wg_cond rfl (fun e171 => ?_) (fun e171 => ?_)
                · replace hd1 := sel_t e171 hd1; clear e171
                  as_aux_lemma =>
                    refine wg_region ?_
                    refine wo_v rfl (val_assign (v := (.int .i64 1)) rfl) ?_
                    refine wo_nil ?_
                    exact ⟨(fun _ => rfl), le140, (by repeat (first | exact off_self | refine off_upd rfl ?_ | refine off_setl rfl ?_ | refine off_mask_sub rfl ?_)), 1, ⟨rfl, trivial⟩, ⟨[], List.Perm.refl _⟩, (Option.some.inj hd1).symm, trivial⟩
                · replace hd1 := sel_f e171 hd1; clear e171
                  as_aux_lemma =>
                    refine wg_skip ?_
                    exact ⟨(fun _ => rfl), le140, (by repeat (first | exact off_self | refine off_upd rfl ?_ | refine off_setl rfl ?_ | refine off_mask_sub rfl ?_)), o56, ⟨rfl, trivial⟩, ⟨[], List.Perm.refl _⟩, (Option.some.inj hd1).symm, trivial⟩
              ·
                rintro o136 j172 D173 R137 hD174 le138 ⟨rfl, _⟩
                obtain rfl := hD174 rfl
                refine wg_seq ?_
                refine wg_region ?_
                refine wo_loadR rfl ty27 rfl (h2.mono (((((((le8.trans le12).trans le21).trans le55).trans le58).trans le106).trans le110).trans le138)) fun v175 h176 => ?_
                refine wo_indexAR (i := 0) rfl ar73 pt_A2tInti640 rfl (h10.mono (((((le21.trans le55).trans le58).trans le106).trans le110).trans le138)) rfl (by decide) fun v177 h178 => ?_
                refine wo_loadR rfl ty3 rfl h178 fun v179 h180 => ?_
                obtain rfl := vrep_int.1 h180
                refine wo_indexAR (i := 1) rfl ar73 pt_A2tInti641 rfl (h10.mono (((((le21.trans le55).trans le58).trans le106).trans le110).trans le138)) rfl (by decide) fun v181 h182 => ?_
                refine wo_loadR rfl ty3 rfl h182 fun v183 h184 => ?_
                obtain rfl := vrep_int.1 h184
                replace hd0 := bd_some hd0; obtain ⟨y185, c186, hd0⟩ := hd0
                refine wo_callP rfl en19 rfl (c_walks_Path h176 c186) fun v187 R189 le190 h188 => ?_
                obtain ⟨v191, rfl, h192⟩ := h188
                refine wo_v rfl (val_move (v := (.tuple #[v191, (.bool y185.2.1), (.int .i64 y185.2.2)])) rfl) ?_
                refine wo_v rfl (val_extract rfl rfl) ?_
                refine wo_v rfl (val_extract rfl rfl) ?_
                refine wo_v rfl (val_extract rfl rfl) ?_
                refine wo_v rfl (val_assign (v := v191) rfl) ?_
                refine wo_v rfl (val_assign (v := (.bool y185.2.1)) rfl) ?_
                refine wo_v rfl (val_assign (v := (.int .i64 y185.2.2)) rfl) ?_
                refine wo_nil ?_
                refine wg_seq ?_
                refine wg_seq ?_
                refine wg_guarded 15 [] [phX (.int .i64 y185.2.2), phX (.int .i64 o136), phX (.bool (decide (y185.2.2 ≠ o136))), phX (.bool (decide (y185.2.2 ≠ o136))), phG (true && ((decide (y185.2.2 ≠ o136)) == false)) (phX (.int .i64 o136)), phG (true && ((decide (y185.2.2 ≠ o136)) == false)) (phX (.bool (decide (o136 ≠ 0)))), phG (true && ((decide (y185.2.2 ≠ o136)) == false)) (phX (.bool (decide (o136 ≠ 0)))), phG ((true && ((decide (y185.2.2 ≠ o136)) == false)) && ((decide (o136 ≠ 0)) == true)) (phX v191), phG ((true && ((decide (y185.2.2 ≠ o136)) == false)) && ((decide (o136 ≠ 0)) == true)) (phX (.int .i64 (↑y185.1.length : Int))), phG ((true && ((decide (y185.2.2 ≠ o136)) == false)) && ((decide (o136 ≠ 0)) == true)) (phX (.bool (decide ((↑y185.1.length : Int) ≠ 0)))), phG ((true && ((decide (y185.2.2 ≠ o136)) == false)) && ((decide (o136 ≠ 0)) == true)) (phX (.bool (decide ((↑y185.1.length : Int) ≠ 0)))), phG (((true && ((decide (y185.2.2 ≠ o136)) == false)) && ((decide (o136 ≠ 0)) == true)) && ((decide ((↑y185.1.length : Int) ≠ 0)) == false)) (phX (.bool y185.2.1)), phG ((true && ((decide (y185.2.2 ≠ o136)) == false)) && ((decide (o136 ≠ 0)) == true)) (phX (.bool ((decide ((↑y185.1.length : Int) ≠ 0)) || y185.2.1))), phG (true && ((decide (y185.2.2 ≠ o136)) == false)) (phX (.bool ((decide (o136 ≠ 0)) && ((decide ((↑y185.1.length : Int) ≠ 0)) || y185.2.1)))), phX (.bool ((decide (y185.2.2 ≠ o136)) || ((decide (o136 ≠ 0)) && ((decide ((↑y185.1.length : Int) ≠ 0)) || y185.2.1))))] (by as_aux_lemma => kernel_rfl) (by as_aux_lemma => kernel_rfl) (monoOk_of ⟨mono_x, mono_x, mono_x, mono_x, (mono_g mono_x), (mono_g mono_x), (mono_g mono_x), (mono_g mono_x), (mono_g mono_x), (mono_g mono_x), (mono_g mono_x), (mono_g mono_x), (mono_g mono_x), (mono_g mono_x), mono_x, trivial⟩) ⟨?_, ?_, ?_, ?_, ?_, ?_, ?_, ?_, ?_, ?_, ?_, ?_, ?_, ?_, ?_, trivial⟩ fun R193 le194 => ?_
                · intro l R0q hle ha hd
                  have a14 : l 14 = (.int .i64 y185.2.2) := ha 14 rfl
                  exact gstep_plain rfl rfl rfl (ph_val (val_move a14))
                · intro l R1q hle ha hd
                  have a9 : l 9 = (.int .i64 o136) := ha 9 rfl
                  exact gstep_plain rfl rfl rfl (ph_val (val_move a9))
                · intro l R2q hle ha hd
                  obtain ⟨d0, d1, _⟩ := hd
                  have f110 : l 110 = (.int .i64 y185.2.2) := d0 rfl
                  have f111 : l 111 = (.int .i64 o136) := d1 rfl
                  exact gstep_plain rfl rfl rfl (ph_val (val_neq f110 f111))
                · intro l R3q hle ha hd
                  obtain ⟨d0, _⟩ := hd
                  have f112 : l 112 = (.bool (decide (y185.2.2 ≠ o136))) := d0 rfl
                  exact gstep_plain rfl rfl rfl (ph_val (val_move f112))
                · intro l R4q hle ha hd
                  obtain ⟨d0, _⟩ := hd
                  have a9 : l 9 = (.int .i64 o136) := ha 9 rfl
                  exact gstep_guard (Gj := true) (Bj := decide (y185.2.2 ≠ o136)) rfl rfl rfl (gtrue (d0 rfl)) rfl (fun hG hB => ph_val (val_move a9))
                · intro l R5q hle ha hd
                  obtain ⟨d0, d1, _⟩ := hd
                  have f114g : phG (true && ((decide (y185.2.2 ≠ o136)) == false)) (phX (.int .i64 o136)) (l 114) R5q := d0 rfl
                  exact gstep_guard (Gj := true) (Bj := decide (y185.2.2 ≠ o136)) rfl rfl rfl (gtrue (d1 rfl)) rfl (fun hG hB => ph_val (val_neq (show l 114 = (.int .i64 o136) from f114g.1 (gandT rfl hB)) rfl))
                · intro l R6q hle ha hd
                  obtain ⟨d0, d1, d2, _⟩ := hd
                  have f115g : phG (true && ((decide (y185.2.2 ≠ o136)) == false)) (phX (.bool (decide (o136 ≠ 0)))) (l 115) R6q := d0 rfl
                  exact gstep_guard (Gj := true) (Bj := decide (y185.2.2 ≠ o136)) rfl rfl rfl (gtrue (d1 rfl)) rfl (fun hG hB => ph_val (val_move (show l 115 = (.bool (decide (o136 ≠ 0))) from f115g.1 (gandT rfl hB))))
                · intro l R7q hle ha hd
                  obtain ⟨d0, _⟩ := hd
                  have a12 : l 12 = v191 := ha 12 rfl
                  exact gstep_guard (Gj := (true && ((decide (y185.2.2 ≠ o136)) == false))) (Bj := decide (o136 ≠ 0)) rfl rfl rfl (d0 rfl) rfl (fun hG hB => ph_val (val_move a12))
                · intro l R8q hle ha hd
                  obtain ⟨d0, d1, _⟩ := hd
                  have f117g : phG ((true && ((decide (y185.2.2 ≠ o136)) == false)) && ((decide (o136 ≠ 0)) == true)) (phX v191) (l 117) R8q := d0 rfl
                  exact gstep_guard (Gj := (true && ((decide (y185.2.2 ≠ o136)) == false))) (Bj := decide (o136 ≠ 0)) rfl rfl rfl (d1 rfl) rfl (fun hG hB => ph_val (val_lenR rfl Try.underlying36 (show l 117 = v191 from f117g.1 (gandT hG hB)) (sl_s (h192.mono hle))))
                · intro l R9q hle ha hd
                  obtain ⟨d0, d1, _⟩ := hd
                  have f118g : phG ((true && ((decide (y185.2.2 ≠ o136)) == false)) && ((decide (o136 ≠ 0)) == true)) (phX (.int .i64 (↑y185.1.length : Int))) (l 118) R9q := d0 rfl
                  exact gstep_guard (Gj := (true && ((decide (y185.2.2 ≠ o136)) == false))) (Bj := decide (o136 ≠ 0)) rfl rfl rfl (d1 rfl) rfl (fun hG hB => ph_val (val_neq (show l 118 = (.int .i64 (↑y185.1.length : Int)) from f118g.1 (gandT hG hB)) rfl))
                · intro l R10q hle ha hd
                  obtain ⟨d0, d1, d2, _⟩ := hd
                  have f119g : phG ((true && ((decide (y185.2.2 ≠ o136)) == false)) && ((decide (o136 ≠ 0)) == true)) (phX (.bool (decide ((↑y185.1.length : Int) ≠ 0)))) (l 119) R10q := d0 rfl
                  exact gstep_guard (Gj := (true && ((decide (y185.2.2 ≠ o136)) == false))) (Bj := decide (o136 ≠ 0)) rfl rfl rfl (d1 rfl) rfl (fun hG hB => ph_val (val_move (show l 119 = (.bool (decide ((↑y185.1.length : Int) ≠ 0))) from f119g.1 (gandT hG hB))))
                · intro l R11q hle ha hd
                  obtain ⟨d0, _⟩ := hd
                  have a13 : l 13 = (.bool y185.2.1) := ha 13 rfl
                  exact gstep_guard (Gj := ((true && ((decide (y185.2.2 ≠ o136)) == false)) && ((decide (o136 ≠ 0)) == true))) (Bj := decide ((↑y185.1.length : Int) ≠ 0)) rfl rfl rfl (d0 rfl) rfl (fun hG hB => ph_val (val_move a13))
                · intro l R12q hle ha hd
                  obtain ⟨d0, d1, d2, _⟩ := hd
                  have f120g : phG ((true && ((decide (y185.2.2 ≠ o136)) == false)) && ((decide (o136 ≠ 0)) == true)) (phX (.bool (decide ((↑y185.1.length : Int) ≠ 0)))) (l 120) R12q := d0 rfl
                  have f121g : phG (((true && ((decide (y185.2.2 ≠ o136)) == false)) && ((decide (o136 ≠ 0)) == true)) && ((decide ((↑y185.1.length : Int) ≠ 0)) == false)) (phX (.bool y185.2.1)) (l 121) R12q := d1 rfl
                  exact gstep_guard (Gj := (true && ((decide (y185.2.2 ≠ o136)) == false))) (Bj := decide (o136 ≠ 0)) rfl rfl rfl (d2 rfl) rfl (fun hG hB => ph_val (val_or (show l 120 = (.bool (decide ((↑y185.1.length : Int) ≠ 0))) from f120g.1 (gandT hG hB)) rfl (fun hb => (show l 121 = (.bool y185.2.1) from f121g.1 (gandT (gandT hG hB) hb)))))
                · intro l R13q hle ha hd
                  obtain ⟨d0, d1, d2, _⟩ := hd
                  have f116g : phG (true && ((decide (y185.2.2 ≠ o136)) == false)) (phX (.bool (decide (o136 ≠ 0)))) (l 116) R13q := d0 rfl
                  have f122g : phG ((true && ((decide (y185.2.2 ≠ o136)) == false)) && ((decide (o136 ≠ 0)) == true)) (phX (.bool ((decide ((↑y185.1.length : Int) ≠ 0)) || y185.2.1))) (l 122) R13q := d1 rfl
                  exact gstep_guard (Gj := true) (Bj := decide (y185.2.2 ≠ o136)) rfl rfl rfl (gtrue (d2 rfl)) rfl (fun hG hB => ph_val (val_and (show l 116 = (.bool (decide (o136 ≠ 0))) from f116g.1 (gandT rfl hB)) (fun hb => (show l 122 = (.bool ((decide ((↑y185.1.length : Int) ≠ 0)) || y185.2.1)) from f122g.1 (gandT (gandT rfl hB) hb))) rfl))
                · intro l R14q hle ha hd
                  obtain ⟨d0, d1, _⟩ := hd
                  have f113 : l 113 = (.bool (decide (y185.2.2 ≠ o136))) := d0 rfl
                  have f123g : phG (true && ((decide (y185.2.2 ≠ o136)) == false)) (phX (.bool ((decide (o136 ≠ 0)) && ((decide ((↑y185.1.length : Int) ≠ 0)) || y185.2.1)))) (l 123) R14q := d1 rfl
                  exact gstep_plain rfl rfl rfl (ph_val (val_or f113 rfl (fun hb => (show l 123 = (.bool ((decide (o136 ≠ 0)) && ((decide ((↑y185.1.length : Int) ≠ 0)) || y185.2.1))) from f123g.1 (gandT rfl hb)))))
                intro v195 h196
                intro v197 h198
                intro v199 h200
                intro v201 h202
                intro v203 h204
                intro v205 h206
                intro v207 h208
                intro v209 h210
                intro v211 h212
                intro v213 h214
                intro v215 h216
                intro v217 h218
                intro v219 h220
                intro v221 h222
                intro v223 h224
                obtain rfl := Eq.symm h196
                obtain rfl := Eq.symm h198
                obtain rfl := Eq.symm h200
                obtain rfl := Eq.symm h202
                obtain rfl := Eq.symm h224
                refine wo_nil ?_
                refine wg_cond rfl (fun e225 => ?_) (fun e225 => ?_)
                · replace hd0 := sel_t e225 hd0; clear e225
                  as_aux_lemma =>
                    refine wg_seq ?_
                    refine wg_region ?_
                    refine wo_v rfl (val_assign (v := (.bool false)) rfl) ?_
                    refine wo_nil ?_
                    refine wg_ret ?_
                    obtain rfl := Option.some.inj hd0
                    refine body_end (D := []) (J := []) (rs := [.tmp 6]) (vs := [(.bool false)]) ((((((((((le4.trans le8).trans le12).trans le21).trans le55).trans le58).trans le106).trans le110).trans le138).trans le190).trans le194) rfl rfl ⟨rfl, trivial⟩ ?_
                    exact ⟨rfl, rfl⟩
                · replace hd0 := sel_f e225 hd0; clear e225
                  as_aux_lemma =>
                    refine wg_skip ?_
                    refine wg_seq ?_
                    refine wg_region ?_
                    refine wo_loadR rfl ty27 rfl (h2.mono (((((((((le8.trans le12).trans le21).trans le55).trans le58).trans le106).trans le110).trans le138).trans le190).trans le194)) fun v226 h227 => ?_
                    replace hd0 := bd_some hd0; obtain ⟨y228, c229, hd0⟩ := hd0
                    refine wo_callP rfl en12 rfl (c_walks_Access h227 c229) fun v230 R232 le233 h231 => ?_
                    obtain ⟨v234, v236, rfl, h235, h237⟩ := h231
                    refine wo_v rfl (val_move (v := (.tuple #[v234, v236, (.int .i64 y228.2.2)])) rfl) ?_
                    refine wo_v rfl (val_extract rfl rfl) ?_
                    refine wo_v rfl (val_extract rfl rfl) ?_
                    refine wo_v rfl (val_extract rfl rfl) ?_
                    refine wo_v rfl (val_assign (v := v234) rfl) ?_
                    refine wo_v rfl (val_assign (v := v236) rfl) ?_
                    refine wo_v rfl (val_assign (v := (.int .i64 y228.2.2)) rfl) ?_
                    refine wo_nil ?_
                    refine wg_seq ?_
                    refine wg_region ?_
                    refine wo_loadR rfl ty27 rfl (h2.mono ((((((((((le8.trans le12).trans le21).trans le55).trans le58).trans le106).trans le110).trans le138).trans le190).trans le194).trans le233)) fun v238 h239 => ?_
                    replace hd0 := bd_some hd0; obtain ⟨y240, c241, hd0⟩ := hd0
                    refine wo_callP rfl en17 rfl (c_walks_Reach h239 c241) fun v242 R244 le245 h243 => ?_
                    obtain ⟨v246, rfl, h247⟩ := h243
                    refine wo_v rfl (val_move (v := (.tuple #[v246, (.int .i64 y240.2)])) rfl) ?_
                    refine wo_v rfl (val_extract rfl rfl) ?_
                    refine wo_v rfl (val_extract rfl rfl) ?_
                    refine wo_v rfl (val_assign (v := v246) rfl) ?_
                    refine wo_v rfl (val_assign (v := (.int .i64 y240.2)) rfl) ?_
                    refine wo_nil ?_
                    refine wg_seq ?_
                    refine wg_region ?_
                    refine wo_loadR rfl ty27 rfl (h2.mono (((((((((((le8.trans le12).trans le21).trans le55).trans le58).trans le106).trans le110).trans le138).trans le190).trans le194).trans le233).trans le245)) fun v248 h249 => ?_
                    replace hd0 := bd_some hd0; obtain ⟨y250, c251, hd0⟩ := hd0
                    refine wo_callP rfl en23 rfl (c_walks_Trim h249 c251) fun v252 R254 le255 h253 => ?_
                    obtain ⟨v256, v258, rfl, h257, h259⟩ := h253
                    refine wo_v rfl (val_move (v := (.tuple #[v256, v258, (.int .i64 y250.2.2)])) rfl) ?_
                    refine wo_v rfl (val_extract rfl rfl) ?_
                    refine wo_v rfl (val_extract rfl rfl) ?_
                    refine wo_v rfl (val_extract rfl rfl) ?_
                    refine wo_alloc rfl za27 fun b260 => ?_
                    obtain ⟨v262, rfl, h263⟩ := cases_Mach h257
                    refine wo_store (i := 0) (vs := [(.int .i64 y250.1.inputs), (.int .i64 y250.1.outputs), v262]) sz27 rfl rfl rfl rfl rfl rfl (one_cons rfl (one_cons rfl (one_cons (sl_one h263) one_nil))) ?_
                    refine wo_v rfl (val_assign (v := v258) rfl) ?_
                    refine wo_v rfl (val_assign (v := (.int .i64 y250.2.2)) rfl) ?_
                    refine wo_nil ?_
                    refine wg_seq ?_
                    refine wg_region ?_
                    refine wo_loadR rfl ty27 rfl (h2.mono ((((((((((((le8.trans le12).trans le21).trans le55).trans le58).trans le106).trans le110).trans le138).trans le190).trans le194).trans le233).trans le245).trans le255)) fun v264 h265 => ?_
                    replace hd0 := bd_some hd0; obtain ⟨y266, c267, hd0⟩ := hd0
                    refine wo_callP rfl en28 rfl (c_walks_Canonical h265 c267) fun v268 R270 le271 h269 => ?_
                    obtain ⟨v272, rfl, h273⟩ := h269
                    refine wo_v rfl (val_move (v := (.tuple #[v272, (.int .i64 y266.2)])) rfl) ?_
                    refine wo_v rfl (val_extract rfl rfl) ?_
                    refine wo_v rfl (val_extract rfl rfl) ?_
                    refine wo_alloc rfl za27 fun b274 => ?_
                    obtain ⟨v276, rfl, h277⟩ := cases_Mach h273
                    refine wo_store (i := 0) (vs := [(.int .i64 y266.1.inputs), (.int .i64 y266.1.outputs), v276]) sz27 rfl rfl rfl rfl rfl rfl (one_cons rfl (one_cons rfl (one_cons (sl_one h277) one_nil))) ?_
                    refine wo_v rfl (val_assign (v := (.int .i64 y266.2)) rfl) ?_
                    refine wo_nil ?_
                    refine wg_seq ?_
                    refine wg_region ?_
                    refine wo_loadR rfl ty27 rfl (h2.mono (((((((((((((le8.trans le12).trans le21).trans le55).trans le58).trans le106).trans le110).trans le138).trans le190).trans le194).trans le233).trans le245).trans le255).trans le271)) fun v278 h279 => ?_
                    replace hd0 := bd_some hd0; obtain ⟨y280, c281, hd0⟩ := hd0
                    refine wo_callP rfl en30 rfl (c_walks_IsCanonical h279 c281) fun v282 R284 le285 h283 => ?_
                    obtain rfl := h283
                    refine wo_v rfl (val_move (v := (.tuple #[(.bool y280.1), (.int .i64 y280.2)])) rfl) ?_
                    refine wo_v rfl (val_extract rfl rfl) ?_
                    refine wo_v rfl (val_extract rfl rfl) ?_
                    refine wo_v rfl (val_assign (v := (.bool y280.1)) rfl) ?_
                    refine wo_v rfl (val_assign (v := (.int .i64 y280.2)) rfl) ?_
                    refine wo_nil ?_
                    refine wg_seq ?_
                    replace hd0 := bd_some hd0; obtain ⟨y286, c287, hd0⟩ := hd0
                    replace hd0 := bd_some hd0; obtain ⟨y288, c289, hd0⟩ := hd0
                    refine wg_drawn 11 [] [phR (kMDat false) x, phR (kMach false false) y286, phR (kMach false false) m, (fun v R => ∃ u0, v = .tuple #[u0, (.bool y288.2.1), (.int .i64 y288.2.2)] ∧ VRep (tSl true (tInt .i64)) R u0 y288.1), (fun v R => ∃ u0, v = .tuple #[u0, (.bool y288.2.1), (.int .i64 y288.2.2)] ∧ VRep (tSl true (tInt .i64)) R u0 y288.1), phR (tSl true (tInt .i64)) y288.1, phX (.bool y288.2.1), phX (.int .i64 y288.2.2), phR (tSl true (tInt .i64)) y288.1, phX (.bool y288.2.1), phX (.int .i64 y288.2.2)] mixed (by as_aux_lemma => kernel_rfl) (monoOk_of ⟨mono_r, mono_r, mono_r, (fun _ _ _ le ⟨u0, e, k0⟩ => ⟨u0, e, k0.mono le⟩), (fun _ _ _ le ⟨u0, e, k0⟩ => ⟨u0, e, k0.mono le⟩), mono_r, mono_x, mono_x, mono_r, mono_x, mono_x, trivial⟩) ⟨?_, ?_, ?_, ?_, ?_, ?_, ?_, ?_, ?_, ?_, ?_, trivial⟩ fun R290 le291 => ?_
                    · intro l R0q hle ha hd
                      have a4 : l 4 = v5 := ha 4 rfl
                      exact gstep_plain rfl rfl rfl (ph_loadR ty24 a4 ((h6.mono (((((((((((((le12.trans le21).trans le55).trans le58).trans le106).trans le110).trans le138).trans le190).trans le194).trans le233).trans le245).trans le255).trans le271).trans le285)).mono hle))
                    · intro l R1q hle ha hd
                      obtain ⟨d0, _⟩ := hd
                      have f153 : phR (kMDat false) x (l 153) R1q := d0 rfl
                      exact gstep_plain rfl rfl rfl (ph_callP (vs := [(l 153)]) en11 rfl (c_gauntletlaw04_M_Of f153 c287) (fun _ _ h => h))
                    · intro l R2q hle ha hd
                      have a3 : l 3 = v1 := ha 3 rfl
                      exact gstep_plain rfl rfl rfl (ph_loadR ty27 a3 ((h2.mono ((((((((((((((le8.trans le12).trans le21).trans le55).trans le58).trans le106).trans le110).trans le138).trans le190).trans le194).trans le233).trans le245).trans le255).trans le271).trans le285)).mono hle))
                    · intro l R3q hle ha hd
                      obtain ⟨d0, d1, d2, _⟩ := hd
                      have f154 : phR (kMach false false) y286 (l 154) R3q := d0 rfl
                      have f155 : phR (kMach false false) m (l 155) R3q := d1 rfl
                      exact gstep_plain rfl rfl rfl (ph_callP (vs := [(l 154), (l 155)]) en32 rfl (c_walks_Isomorphic f154 f155 c289) (fun _ _ h => h))
                    · intro l R4q hle ha hd
                      obtain ⟨d0, _⟩ := hd
                      have f156 : (fun v R => ∃ u0, v = .tuple #[u0, (.bool y288.2.1), (.int .i64 y288.2.2)] ∧ VRep (tSl true (tInt .i64)) R u0 y288.1) (l 156) R4q := d0 rfl
                      exact gstep_plain rfl rfl rfl (Val.phi (val_move rfl) f156)
                    · intro l R5q hle ha hd
                      obtain ⟨d0, _⟩ := hd
                      have f152 : (fun v R => ∃ u0, v = .tuple #[u0, (.bool y288.2.1), (.int .i64 y288.2.2)] ∧ VRep (tSl true (tInt .i64)) R u0 y288.1) (l 152) R5q := d0 rfl
                      obtain ⟨u0, ht, hu0⟩ := f152
                      exact gstep_plain rfl rfl rfl (ph_rep (val_extract ht rfl) hu0)
                    · intro l R6q hle ha hd
                      obtain ⟨d0, d1, _⟩ := hd
                      have f152 : (fun v R => ∃ u0, v = .tuple #[u0, (.bool y288.2.1), (.int .i64 y288.2.2)] ∧ VRep (tSl true (tInt .i64)) R u0 y288.1) (l 152) R6q := d0 rfl
                      obtain ⟨u0, ht, hu0⟩ := f152
                      exact gstep_plain rfl rfl rfl (ph_val (val_extract ht rfl))
                    · intro l R7q hle ha hd
                      obtain ⟨d0, d1, _⟩ := hd
                      have f152 : (fun v R => ∃ u0, v = .tuple #[u0, (.bool y288.2.1), (.int .i64 y288.2.2)] ∧ VRep (tSl true (tInt .i64)) R u0 y288.1) (l 152) R7q := d0 rfl
                      obtain ⟨u0, ht, hu0⟩ := f152
                      exact gstep_plain rfl rfl rfl (ph_val (val_extract ht rfl))
                    · intro l R8q hle ha hd
                      obtain ⟨d0, d1, d2, d3, d4, d5, d6, d7, d8, d9, _⟩ := hd
                      have f157 : phR (tSl true (tInt .i64)) y288.1 (l 157) R8q := d0 rfl
                      exact gstep_plain rfl rfl rfl (ph_rep (val_assign rfl) f157)
                    · intro l R9q hle ha hd
                      obtain ⟨d0, d1, d2, d3, d4, d5, d6, d7, d8, d9, d10, _⟩ := hd
                      have f158 : l 158 = (.bool y288.2.1) := d0 rfl
                      exact gstep_plain rfl rfl rfl (ph_val (val_assign f158))
                    · intro l R10q hle ha hd
                      obtain ⟨d0, d1, d2, d3, d4, d5, d6, d7, d8, d9, d10, d11, _⟩ := hd
                      have f159 : l 159 = (.int .i64 y288.2.2) := d0 rfl
                      exact gstep_plain rfl rfl rfl (ph_val (val_assign f159))
                    intro v292 h293
                    intro v294 h295
                    intro v296 h297
                    intro v298 h299
                    intro v300 h301
                    intro v302 h303
                    intro v304 h305
                    intro v306 h307
                    intro v308 h309
                    intro v310 h311
                    intro v312 h313
                    obtain ⟨v314, rfl, h315⟩ := h299
                    obtain ⟨v316, rfl, h317⟩ := h301
                    obtain rfl := Eq.symm h305
                    obtain rfl := Eq.symm h307
                    obtain rfl := Eq.symm h311
                    obtain rfl := Eq.symm h313
                    refine wo_nil ?_
                    refine wg_seq ?_
                    refine wg_seq ?_
                    refine wg_guarded 28 [] [phX (.int .i64 y228.2.2), phX (.int .i64 y50), phX (.bool (decide (y228.2.2 ≠ y50))), phX (.bool (decide (y228.2.2 ≠ y50))), phG (true && ((decide (y228.2.2 ≠ y50)) == false)) (phX (.int .i64 y240.2)), phG (true && ((decide (y228.2.2 ≠ y50)) == false)) (phX (.int .i64 y50)), phG (true && ((decide (y228.2.2 ≠ y50)) == false)) (phX (.bool (decide (y240.2 ≠ y50)))), phX (.bool ((decide (y228.2.2 ≠ y50)) || (decide (y240.2 ≠ y50)))), phX (.bool ((decide (y228.2.2 ≠ y50)) || (decide (y240.2 ≠ y50)))), phG (true && (((decide (y228.2.2 ≠ y50)) || (decide (y240.2 ≠ y50))) == false)) (phX (.int .i64 y250.2.2)), phG (true && (((decide (y228.2.2 ≠ y50)) || (decide (y240.2 ≠ y50))) == false)) (phX (.int .i64 y50)), phG (true && (((decide (y228.2.2 ≠ y50)) || (decide (y240.2 ≠ y50))) == false)) (phX (.bool (decide (y250.2.2 ≠ y50)))), phX (.bool (((decide (y228.2.2 ≠ y50)) || (decide (y240.2 ≠ y50))) || (decide (y250.2.2 ≠ y50)))), phX (.bool (((decide (y228.2.2 ≠ y50)) || (decide (y240.2 ≠ y50))) || (decide (y250.2.2 ≠ y50)))), phG (true && ((((decide (y228.2.2 ≠ y50)) || (decide (y240.2 ≠ y50))) || (decide (y250.2.2 ≠ y50))) == false)) (phX (.int .i64 y266.2)), phG (true && ((((decide (y228.2.2 ≠ y50)) || (decide (y240.2 ≠ y50))) || (decide (y250.2.2 ≠ y50))) == false)) (phX (.int .i64 y50)), phG (true && ((((decide (y228.2.2 ≠ y50)) || (decide (y240.2 ≠ y50))) || (decide (y250.2.2 ≠ y50))) == false)) (phX (.bool (decide (y266.2 ≠ y50)))), phX (.bool ((((decide (y228.2.2 ≠ y50)) || (decide (y240.2 ≠ y50))) || (decide (y250.2.2 ≠ y50))) || (decide (y266.2 ≠ y50)))), phX (.bool ((((decide (y228.2.2 ≠ y50)) || (decide (y240.2 ≠ y50))) || (decide (y250.2.2 ≠ y50))) || (decide (y266.2 ≠ y50)))), phG (true && (((((decide (y228.2.2 ≠ y50)) || (decide (y240.2 ≠ y50))) || (decide (y250.2.2 ≠ y50))) || (decide (y266.2 ≠ y50))) == false)) (phX (.int .i64 y280.2)), phG (true && (((((decide (y228.2.2 ≠ y50)) || (decide (y240.2 ≠ y50))) || (decide (y250.2.2 ≠ y50))) || (decide (y266.2 ≠ y50))) == false)) (phX (.int .i64 y50)), phG (true && (((((decide (y228.2.2 ≠ y50)) || (decide (y240.2 ≠ y50))) || (decide (y250.2.2 ≠ y50))) || (decide (y266.2 ≠ y50))) == false)) (phX (.bool (decide (y280.2 ≠ y50)))), phX (.bool (((((decide (y228.2.2 ≠ y50)) || (decide (y240.2 ≠ y50))) || (decide (y250.2.2 ≠ y50))) || (decide (y266.2 ≠ y50))) || (decide (y280.2 ≠ y50)))), phX (.bool (((((decide (y228.2.2 ≠ y50)) || (decide (y240.2 ≠ y50))) || (decide (y250.2.2 ≠ y50))) || (decide (y266.2 ≠ y50))) || (decide (y280.2 ≠ y50)))), phG (true && ((((((decide (y228.2.2 ≠ y50)) || (decide (y240.2 ≠ y50))) || (decide (y250.2.2 ≠ y50))) || (decide (y266.2 ≠ y50))) || (decide (y280.2 ≠ y50))) == false)) (phX (.int .i64 y288.2.2)), phG (true && ((((((decide (y228.2.2 ≠ y50)) || (decide (y240.2 ≠ y50))) || (decide (y250.2.2 ≠ y50))) || (decide (y266.2 ≠ y50))) || (decide (y280.2 ≠ y50))) == false)) (phX (.int .i64 y50)), phG (true && ((((((decide (y228.2.2 ≠ y50)) || (decide (y240.2 ≠ y50))) || (decide (y250.2.2 ≠ y50))) || (decide (y266.2 ≠ y50))) || (decide (y280.2 ≠ y50))) == false)) (phX (.bool (decide (y288.2.2 ≠ y50)))), phX (.bool ((((((decide (y228.2.2 ≠ y50)) || (decide (y240.2 ≠ y50))) || (decide (y250.2.2 ≠ y50))) || (decide (y266.2 ≠ y50))) || (decide (y280.2 ≠ y50))) || (decide (y288.2.2 ≠ y50))))] (by as_aux_lemma => kernel_rfl) (by as_aux_lemma => kernel_rfl) (monoOk_of ⟨mono_x, mono_x, mono_x, mono_x, (mono_g mono_x), (mono_g mono_x), (mono_g mono_x), mono_x, mono_x, (mono_g mono_x), (mono_g mono_x), (mono_g mono_x), mono_x, mono_x, (mono_g mono_x), (mono_g mono_x), (mono_g mono_x), mono_x, mono_x, (mono_g mono_x), (mono_g mono_x), (mono_g mono_x), mono_x, mono_x, (mono_g mono_x), (mono_g mono_x), (mono_g mono_x), mono_x, trivial⟩) ⟨?_, ?_, ?_, ?_, ?_, ?_, ?_, ?_, ?_, ?_, ?_, ?_, ?_, ?_, ?_, ?_, ?_, ?_, ?_, ?_, ?_, ?_, ?_, ?_, ?_, ?_, ?_, ?_, trivial⟩ fun R318 le319 => ?_
                    · intro l R0q hle ha hd
                      have a17 : l 17 = (.int .i64 y228.2.2) := ha 17 rfl
                      exact gstep_plain rfl rfl rfl (ph_val (val_move a17))
                    · intro l R1q hle ha hd
                      have a8 : l 8 = (.int .i64 y50) := ha 8 rfl
                      exact gstep_plain rfl rfl rfl (ph_val (val_move a8))
                    · intro l R2q hle ha hd
                      obtain ⟨d0, d1, _⟩ := hd
                      have f160 : l 160 = (.int .i64 y228.2.2) := d0 rfl
                      have f161 : l 161 = (.int .i64 y50) := d1 rfl
                      exact gstep_plain rfl rfl rfl (ph_val (val_neq f160 f161))
                    · intro l R3q hle ha hd
                      obtain ⟨d0, _⟩ := hd
                      have f162 : l 162 = (.bool (decide (y228.2.2 ≠ y50))) := d0 rfl
                      exact gstep_plain rfl rfl rfl (ph_val (val_move f162))
                    · intro l R4q hle ha hd
                      obtain ⟨d0, _⟩ := hd
                      have a19 : l 19 = (.int .i64 y240.2) := ha 19 rfl
                      exact gstep_guard (Gj := true) (Bj := decide (y228.2.2 ≠ y50)) rfl rfl rfl (gtrue (d0 rfl)) rfl (fun hG hB => ph_val (val_move a19))
                    · intro l R5q hle ha hd
                      obtain ⟨d0, _⟩ := hd
                      have a8 : l 8 = (.int .i64 y50) := ha 8 rfl
                      exact gstep_guard (Gj := true) (Bj := decide (y228.2.2 ≠ y50)) rfl rfl rfl (gtrue (d0 rfl)) rfl (fun hG hB => ph_val (val_move a8))
                    · intro l R6q hle ha hd
                      obtain ⟨d0, d1, d2, _⟩ := hd
                      have f164g : phG (true && ((decide (y228.2.2 ≠ y50)) == false)) (phX (.int .i64 y240.2)) (l 164) R6q := d0 rfl
                      have f165g : phG (true && ((decide (y228.2.2 ≠ y50)) == false)) (phX (.int .i64 y50)) (l 165) R6q := d1 rfl
                      exact gstep_guard (Gj := true) (Bj := decide (y228.2.2 ≠ y50)) rfl rfl rfl (gtrue (d2 rfl)) rfl (fun hG hB => ph_val (val_neq (show l 164 = (.int .i64 y240.2) from f164g.1 (gandT rfl hB)) (show l 165 = (.int .i64 y50) from f165g.1 (gandT rfl hB))))
                    · intro l R7q hle ha hd
                      obtain ⟨d0, d1, _⟩ := hd
                      have f163 : l 163 = (.bool (decide (y228.2.2 ≠ y50))) := d0 rfl
                      have f166g : phG (true && ((decide (y228.2.2 ≠ y50)) == false)) (phX (.bool (decide (y240.2 ≠ y50)))) (l 166) R7q := d1 rfl
                      exact gstep_plain rfl rfl rfl (ph_val (val_or f163 rfl (fun hb => (show l 166 = (.bool (decide (y240.2 ≠ y50))) from f166g.1 (gandT rfl hb)))))
                    · intro l R8q hle ha hd
                      obtain ⟨d0, d1, _⟩ := hd
                      have f167 : l 167 = (.bool ((decide (y228.2.2 ≠ y50)) || (decide (y240.2 ≠ y50)))) := d0 rfl
                      exact gstep_plain rfl rfl rfl (ph_val (val_move f167))
                    · intro l R9q hle ha hd
                      obtain ⟨d0, _⟩ := hd
                      have a22 : l 22 = (.int .i64 y250.2.2) := ha 22 rfl
                      exact gstep_guard (Gj := true) (Bj := (decide (y228.2.2 ≠ y50)) || (decide (y240.2 ≠ y50))) rfl rfl rfl (gtrue (d0 rfl)) rfl (fun hG hB => ph_val (val_move a22))
                    · intro l R10q hle ha hd
                      obtain ⟨d0, _⟩ := hd
                      have a8 : l 8 = (.int .i64 y50) := ha 8 rfl
                      exact gstep_guard (Gj := true) (Bj := (decide (y228.2.2 ≠ y50)) || (decide (y240.2 ≠ y50))) rfl rfl rfl (gtrue (d0 rfl)) rfl (fun hG hB => ph_val (val_move a8))
                    · intro l R11q hle ha hd
                      obtain ⟨d0, d1, d2, _⟩ := hd
                      have f169g : phG (true && (((decide (y228.2.2 ≠ y50)) || (decide (y240.2 ≠ y50))) == false)) (phX (.int .i64 y250.2.2)) (l 169) R11q := d0 rfl
                      have f170g : phG (true && (((decide (y228.2.2 ≠ y50)) || (decide (y240.2 ≠ y50))) == false)) (phX (.int .i64 y50)) (l 170) R11q := d1 rfl
                      exact gstep_guard (Gj := true) (Bj := (decide (y228.2.2 ≠ y50)) || (decide (y240.2 ≠ y50))) rfl rfl rfl (gtrue (d2 rfl)) rfl (fun hG hB => ph_val (val_neq (show l 169 = (.int .i64 y250.2.2) from f169g.1 (gandT rfl hB)) (show l 170 = (.int .i64 y50) from f170g.1 (gandT rfl hB))))
                    · intro l R12q hle ha hd
                      obtain ⟨d0, d1, _⟩ := hd
                      have f168 : l 168 = (.bool ((decide (y228.2.2 ≠ y50)) || (decide (y240.2 ≠ y50)))) := d0 rfl
                      have f171g : phG (true && (((decide (y228.2.2 ≠ y50)) || (decide (y240.2 ≠ y50))) == false)) (phX (.bool (decide (y250.2.2 ≠ y50)))) (l 171) R12q := d1 rfl
                      exact gstep_plain rfl rfl rfl (ph_val (val_or f168 rfl (fun hb => (show l 171 = (.bool (decide (y250.2.2 ≠ y50))) from f171g.1 (gandT rfl hb)))))
                    · intro l R13q hle ha hd
                      obtain ⟨d0, d1, _⟩ := hd
                      have f172 : l 172 = (.bool (((decide (y228.2.2 ≠ y50)) || (decide (y240.2 ≠ y50))) || (decide (y250.2.2 ≠ y50)))) := d0 rfl
                      exact gstep_plain rfl rfl rfl (ph_val (val_move f172))
                    · intro l R14q hle ha hd
                      obtain ⟨d0, _⟩ := hd
                      have a24 : l 24 = (.int .i64 y266.2) := ha 24 rfl
                      exact gstep_guard (Gj := true) (Bj := ((decide (y228.2.2 ≠ y50)) || (decide (y240.2 ≠ y50))) || (decide (y250.2.2 ≠ y50))) rfl rfl rfl (gtrue (d0 rfl)) rfl (fun hG hB => ph_val (val_move a24))
                    · intro l R15q hle ha hd
                      obtain ⟨d0, _⟩ := hd
                      have a8 : l 8 = (.int .i64 y50) := ha 8 rfl
                      exact gstep_guard (Gj := true) (Bj := ((decide (y228.2.2 ≠ y50)) || (decide (y240.2 ≠ y50))) || (decide (y250.2.2 ≠ y50))) rfl rfl rfl (gtrue (d0 rfl)) rfl (fun hG hB => ph_val (val_move a8))
                    · intro l R16q hle ha hd
                      obtain ⟨d0, d1, d2, _⟩ := hd
                      have f174g : phG (true && ((((decide (y228.2.2 ≠ y50)) || (decide (y240.2 ≠ y50))) || (decide (y250.2.2 ≠ y50))) == false)) (phX (.int .i64 y266.2)) (l 174) R16q := d0 rfl
                      have f175g : phG (true && ((((decide (y228.2.2 ≠ y50)) || (decide (y240.2 ≠ y50))) || (decide (y250.2.2 ≠ y50))) == false)) (phX (.int .i64 y50)) (l 175) R16q := d1 rfl
                      exact gstep_guard (Gj := true) (Bj := ((decide (y228.2.2 ≠ y50)) || (decide (y240.2 ≠ y50))) || (decide (y250.2.2 ≠ y50))) rfl rfl rfl (gtrue (d2 rfl)) rfl (fun hG hB => ph_val (val_neq (show l 174 = (.int .i64 y266.2) from f174g.1 (gandT rfl hB)) (show l 175 = (.int .i64 y50) from f175g.1 (gandT rfl hB))))
                    · intro l R17q hle ha hd
                      obtain ⟨d0, d1, _⟩ := hd
                      have f173 : l 173 = (.bool (((decide (y228.2.2 ≠ y50)) || (decide (y240.2 ≠ y50))) || (decide (y250.2.2 ≠ y50)))) := d0 rfl
                      have f176g : phG (true && ((((decide (y228.2.2 ≠ y50)) || (decide (y240.2 ≠ y50))) || (decide (y250.2.2 ≠ y50))) == false)) (phX (.bool (decide (y266.2 ≠ y50)))) (l 176) R17q := d1 rfl
                      exact gstep_plain rfl rfl rfl (ph_val (val_or f173 rfl (fun hb => (show l 176 = (.bool (decide (y266.2 ≠ y50))) from f176g.1 (gandT rfl hb)))))
                    · intro l R18q hle ha hd
                      obtain ⟨d0, d1, _⟩ := hd
                      have f177 : l 177 = (.bool ((((decide (y228.2.2 ≠ y50)) || (decide (y240.2 ≠ y50))) || (decide (y250.2.2 ≠ y50))) || (decide (y266.2 ≠ y50)))) := d0 rfl
                      exact gstep_plain rfl rfl rfl (ph_val (val_move f177))
                    · intro l R19q hle ha hd
                      obtain ⟨d0, _⟩ := hd
                      have a26 : l 26 = (.int .i64 y280.2) := ha 26 rfl
                      exact gstep_guard (Gj := true) (Bj := (((decide (y228.2.2 ≠ y50)) || (decide (y240.2 ≠ y50))) || (decide (y250.2.2 ≠ y50))) || (decide (y266.2 ≠ y50))) rfl rfl rfl (gtrue (d0 rfl)) rfl (fun hG hB => ph_val (val_move a26))
                    · intro l R20q hle ha hd
                      obtain ⟨d0, _⟩ := hd
                      have a8 : l 8 = (.int .i64 y50) := ha 8 rfl
                      exact gstep_guard (Gj := true) (Bj := (((decide (y228.2.2 ≠ y50)) || (decide (y240.2 ≠ y50))) || (decide (y250.2.2 ≠ y50))) || (decide (y266.2 ≠ y50))) rfl rfl rfl (gtrue (d0 rfl)) rfl (fun hG hB => ph_val (val_move a8))
                    · intro l R21q hle ha hd
                      obtain ⟨d0, d1, d2, _⟩ := hd
                      have f179g : phG (true && (((((decide (y228.2.2 ≠ y50)) || (decide (y240.2 ≠ y50))) || (decide (y250.2.2 ≠ y50))) || (decide (y266.2 ≠ y50))) == false)) (phX (.int .i64 y280.2)) (l 179) R21q := d0 rfl
                      have f180g : phG (true && (((((decide (y228.2.2 ≠ y50)) || (decide (y240.2 ≠ y50))) || (decide (y250.2.2 ≠ y50))) || (decide (y266.2 ≠ y50))) == false)) (phX (.int .i64 y50)) (l 180) R21q := d1 rfl
                      exact gstep_guard (Gj := true) (Bj := (((decide (y228.2.2 ≠ y50)) || (decide (y240.2 ≠ y50))) || (decide (y250.2.2 ≠ y50))) || (decide (y266.2 ≠ y50))) rfl rfl rfl (gtrue (d2 rfl)) rfl (fun hG hB => ph_val (val_neq (show l 179 = (.int .i64 y280.2) from f179g.1 (gandT rfl hB)) (show l 180 = (.int .i64 y50) from f180g.1 (gandT rfl hB))))
                    · intro l R22q hle ha hd
                      obtain ⟨d0, d1, _⟩ := hd
                      have f178 : l 178 = (.bool ((((decide (y228.2.2 ≠ y50)) || (decide (y240.2 ≠ y50))) || (decide (y250.2.2 ≠ y50))) || (decide (y266.2 ≠ y50)))) := d0 rfl
                      have f181g : phG (true && (((((decide (y228.2.2 ≠ y50)) || (decide (y240.2 ≠ y50))) || (decide (y250.2.2 ≠ y50))) || (decide (y266.2 ≠ y50))) == false)) (phX (.bool (decide (y280.2 ≠ y50)))) (l 181) R22q := d1 rfl
                      exact gstep_plain rfl rfl rfl (ph_val (val_or f178 rfl (fun hb => (show l 181 = (.bool (decide (y280.2 ≠ y50))) from f181g.1 (gandT rfl hb)))))
                    · intro l R23q hle ha hd
                      obtain ⟨d0, d1, _⟩ := hd
                      have f182 : l 182 = (.bool (((((decide (y228.2.2 ≠ y50)) || (decide (y240.2 ≠ y50))) || (decide (y250.2.2 ≠ y50))) || (decide (y266.2 ≠ y50))) || (decide (y280.2 ≠ y50)))) := d0 rfl
                      exact gstep_plain rfl rfl rfl (ph_val (val_move f182))
                    · intro l R24q hle ha hd
                      obtain ⟨d0, _⟩ := hd
                      have a29 : l 29 = (.int .i64 y288.2.2) := ha 29 rfl
                      exact gstep_guard (Gj := true) (Bj := ((((decide (y228.2.2 ≠ y50)) || (decide (y240.2 ≠ y50))) || (decide (y250.2.2 ≠ y50))) || (decide (y266.2 ≠ y50))) || (decide (y280.2 ≠ y50))) rfl rfl rfl (gtrue (d0 rfl)) rfl (fun hG hB => ph_val (val_move a29))
                    · intro l R25q hle ha hd
                      obtain ⟨d0, _⟩ := hd
                      have a8 : l 8 = (.int .i64 y50) := ha 8 rfl
                      exact gstep_guard (Gj := true) (Bj := ((((decide (y228.2.2 ≠ y50)) || (decide (y240.2 ≠ y50))) || (decide (y250.2.2 ≠ y50))) || (decide (y266.2 ≠ y50))) || (decide (y280.2 ≠ y50))) rfl rfl rfl (gtrue (d0 rfl)) rfl (fun hG hB => ph_val (val_move a8))
                    · intro l R26q hle ha hd
                      obtain ⟨d0, d1, d2, _⟩ := hd
                      have f184g : phG (true && ((((((decide (y228.2.2 ≠ y50)) || (decide (y240.2 ≠ y50))) || (decide (y250.2.2 ≠ y50))) || (decide (y266.2 ≠ y50))) || (decide (y280.2 ≠ y50))) == false)) (phX (.int .i64 y288.2.2)) (l 184) R26q := d0 rfl
                      have f185g : phG (true && ((((((decide (y228.2.2 ≠ y50)) || (decide (y240.2 ≠ y50))) || (decide (y250.2.2 ≠ y50))) || (decide (y266.2 ≠ y50))) || (decide (y280.2 ≠ y50))) == false)) (phX (.int .i64 y50)) (l 185) R26q := d1 rfl
                      exact gstep_guard (Gj := true) (Bj := ((((decide (y228.2.2 ≠ y50)) || (decide (y240.2 ≠ y50))) || (decide (y250.2.2 ≠ y50))) || (decide (y266.2 ≠ y50))) || (decide (y280.2 ≠ y50))) rfl rfl rfl (gtrue (d2 rfl)) rfl (fun hG hB => ph_val (val_neq (show l 184 = (.int .i64 y288.2.2) from f184g.1 (gandT rfl hB)) (show l 185 = (.int .i64 y50) from f185g.1 (gandT rfl hB))))
                    · intro l R27q hle ha hd
                      obtain ⟨d0, d1, _⟩ := hd
                      have f183 : l 183 = (.bool (((((decide (y228.2.2 ≠ y50)) || (decide (y240.2 ≠ y50))) || (decide (y250.2.2 ≠ y50))) || (decide (y266.2 ≠ y50))) || (decide (y280.2 ≠ y50)))) := d0 rfl
                      have f186g : phG (true && ((((((decide (y228.2.2 ≠ y50)) || (decide (y240.2 ≠ y50))) || (decide (y250.2.2 ≠ y50))) || (decide (y266.2 ≠ y50))) || (decide (y280.2 ≠ y50))) == false)) (phX (.bool (decide (y288.2.2 ≠ y50)))) (l 186) R27q := d1 rfl
                      exact gstep_plain rfl rfl rfl (ph_val (val_or f183 rfl (fun hb => (show l 186 = (.bool (decide (y288.2.2 ≠ y50))) from f186g.1 (gandT rfl hb)))))
                    intro v320 h321
                    intro v322 h323
                    intro v324 h325
                    intro v326 h327
                    intro v328 h329
                    intro v330 h331
                    intro v332 h333
                    intro v334 h335
                    intro v336 h337
                    intro v338 h339
                    intro v340 h341
                    intro v342 h343
                    intro v344 h345
                    intro v346 h347
                    intro v348 h349
                    intro v350 h351
                    intro v352 h353
                    intro v354 h355
                    intro v356 h357
                    intro v358 h359
                    intro v360 h361
                    intro v362 h363
                    intro v364 h365
                    intro v366 h367
                    intro v368 h369
                    intro v370 h371
                    intro v372 h373
                    intro v374 h375
                    obtain rfl := Eq.symm h321
                    obtain rfl := Eq.symm h323
                    obtain rfl := Eq.symm h325
                    obtain rfl := Eq.symm h327
                    obtain rfl := Eq.symm h335
                    obtain rfl := Eq.symm h337
                    obtain rfl := Eq.symm h345
                    obtain rfl := Eq.symm h347
                    obtain rfl := Eq.symm h355
                    obtain rfl := Eq.symm h357
                    obtain rfl := Eq.symm h365
                    obtain rfl := Eq.symm h367
                    obtain rfl := Eq.symm h375
                    refine wo_nil ?_
                    refine wg_cond rfl (fun e376 => ?_) (fun e376 => ?_)
                    · replace hd0 := sel_t e376 hd0; clear e376
                      as_aux_lemma =>
                        refine wg_seq ?_
                        refine wg_region ?_
                        refine wo_v rfl (val_assign (v := (.bool false)) rfl) ?_
                        refine wo_nil ?_
                        refine wg_ret ?_
                        obtain rfl := Option.some.inj hd0
                        refine body_end (D := []) (J := [box b274 [(.int .i64 y266.1.inputs), (.int .i64 y266.1.outputs), v276] 27, box b260 [(.int .i64 y250.1.inputs), (.int .i64 y250.1.outputs), v262] 27]) (rs := [.tmp 6]) (vs := [(.bool false)]) (((((((((((((((((le4.trans le8).trans le12).trans le21).trans le55).trans le58).trans le106).trans le110).trans le138).trans le190).trans le194).trans le233).trans le245).trans le255).trans le271).trans le285).trans le291).trans le319) rfl rfl ⟨rfl, trivial⟩ ?_
                        exact ⟨rfl, rfl⟩
                    · replace hd0 := sel_f e376 hd0; clear e376
                      as_aux_lemma =>
                        refine wg_skip ?_
                        refine wg_seq ?_
                        have g377 := (gd_some hd0).1; replace hd0 := (gd_some hd0).2
                        have g378 := (gd_some hd0).1; replace hd0 := (gd_some hd0).2
                        have g379 := (gd_some hd0).1; replace hd0 := (gd_some hd0).2
                        have g380 := (gd_some hd0).1; replace hd0 := (gd_some hd0).2
                        have g381 := (gd_some hd0).1; replace hd0 := (gd_some hd0).2
                        have g382 := (gd_some hd0).1; replace hd0 := (gd_some hd0).2
                        replace hd0 := bd_some hd0; obtain ⟨y383, c384, hd0⟩ := hd0
                        refine wg_guarded 39 [] [phX (.int .i64 y50), phX (.bool (decide (y50 = 0))), phX (.bool (decide (y50 = 0))), phG (true && ((decide (y50 = 0)) == false)) (phX v234), phG (true && ((decide (y50 = 0)) == false)) (phX (.int .i64 (↑y228.1.length : Int))), phG (true && ((decide (y50 = 0)) == false)) (phX v236), phG (true && ((decide (y50 = 0)) == false)) (phX (.int .i64 (↑y228.2.1.length : Int))), phG (true && ((decide (y50 = 0)) == false)) (phX (.int .i64 ((↑y228.1.length : Int) + (↑y228.2.1.length : Int)))), phG (true && ((decide (y50 = 0)) == false)) (phX v246), phG (true && ((decide (y50 = 0)) == false)) (phX (.int .i64 (↑y240.1.length : Int))), phG (true && ((decide (y50 = 0)) == false)) (phX (.int .i64 (((↑y228.1.length : Int) + (↑y228.2.1.length : Int)) + (↑y240.1.length : Int)))), phG (true && ((decide (y50 = 0)) == false)) (phX (.pointer (some ⟨b260, 2, none⟩))), phG (true && ((decide (y50 = 0)) == false)) (phX v262), phG (true && ((decide (y50 = 0)) == false)) (phX (.int .i64 (↑y250.1.rows.length : Int))), phG (true && ((decide (y50 = 0)) == false)) (phX (.int .i64 ((((↑y228.1.length : Int) + (↑y228.2.1.length : Int)) + (↑y240.1.length : Int)) + (↑y250.1.rows.length : Int)))), phG (true && ((decide (y50 = 0)) == false)) (phX v258), phG (true && ((decide (y50 = 0)) == false)) (phX (.int .i64 (↑y250.2.1.length : Int))), phG (true && ((decide (y50 = 0)) == false)) (phX (.int .i64 (((((↑y228.1.length : Int) + (↑y228.2.1.length : Int)) + (↑y240.1.length : Int)) + (↑y250.1.rows.length : Int)) + (↑y250.2.1.length : Int)))), phG (true && ((decide (y50 = 0)) == false)) (phX (.pointer (some ⟨b274, 2, none⟩))), phG (true && ((decide (y50 = 0)) == false)) (phX v276), phG (true && ((decide (y50 = 0)) == false)) (phX (.int .i64 (↑y266.1.rows.length : Int))), phG (true && ((decide (y50 = 0)) == false)) (phX (.int .i64 ((((((↑y228.1.length : Int) + (↑y228.2.1.length : Int)) + (↑y240.1.length : Int)) + (↑y250.1.rows.length : Int)) + (↑y250.2.1.length : Int)) + (↑y266.1.rows.length : Int)))), phG (true && ((decide (y50 = 0)) == false)) (phX v308), phG (true && ((decide (y50 = 0)) == false)) (phX (.int .i64 (↑y288.1.length : Int))), phG (true && ((decide (y50 = 0)) == false)) (phX (.int .i64 (((((((↑y228.1.length : Int) + (↑y228.2.1.length : Int)) + (↑y240.1.length : Int)) + (↑y250.1.rows.length : Int)) + (↑y250.2.1.length : Int)) + (↑y266.1.rows.length : Int)) + (↑y288.1.length : Int)))), phG (true && ((decide (y50 = 0)) == false)) (phX (.bool (decide ((((((((↑y228.1.length : Int) + (↑y228.2.1.length : Int)) + (↑y240.1.length : Int)) + (↑y250.1.rows.length : Int)) + (↑y250.2.1.length : Int)) + (↑y266.1.rows.length : Int)) + (↑y288.1.length : Int)) = 0)))), phG (true && ((decide (y50 = 0)) == false)) (phX (.bool (decide ((((((((↑y228.1.length : Int) + (↑y228.2.1.length : Int)) + (↑y240.1.length : Int)) + (↑y250.1.rows.length : Int)) + (↑y250.2.1.length : Int)) + (↑y266.1.rows.length : Int)) + (↑y288.1.length : Int)) = 0)))), phG ((true && ((decide (y50 = 0)) == false)) && ((decide ((((((((↑y228.1.length : Int) + (↑y228.2.1.length : Int)) + (↑y240.1.length : Int)) + (↑y250.1.rows.length : Int)) + (↑y250.2.1.length : Int)) + (↑y266.1.rows.length : Int)) + (↑y288.1.length : Int)) = 0)) == true)) (phX (.bool y280.1)), phG ((true && ((decide (y50 = 0)) == false)) && ((decide ((((((((↑y228.1.length : Int) + (↑y228.2.1.length : Int)) + (↑y240.1.length : Int)) + (↑y250.1.rows.length : Int)) + (↑y250.2.1.length : Int)) + (↑y266.1.rows.length : Int)) + (↑y288.1.length : Int)) = 0)) == true)) (phX (.bool (!y280.1))), phG (true && ((decide (y50 = 0)) == false)) (phX (.bool ((decide ((((((((↑y228.1.length : Int) + (↑y228.2.1.length : Int)) + (↑y240.1.length : Int)) + (↑y250.1.rows.length : Int)) + (↑y250.2.1.length : Int)) + (↑y266.1.rows.length : Int)) + (↑y288.1.length : Int)) = 0)) && (!y280.1)))), phG (true && ((decide (y50 = 0)) == false)) (phX (.bool ((decide ((((((((↑y228.1.length : Int) + (↑y228.2.1.length : Int)) + (↑y240.1.length : Int)) + (↑y250.1.rows.length : Int)) + (↑y250.2.1.length : Int)) + (↑y266.1.rows.length : Int)) + (↑y288.1.length : Int)) = 0)) && (!y280.1)))), phG ((true && ((decide (y50 = 0)) == false)) && (((decide ((((((((↑y228.1.length : Int) + (↑y228.2.1.length : Int)) + (↑y240.1.length : Int)) + (↑y250.1.rows.length : Int)) + (↑y250.2.1.length : Int)) + (↑y266.1.rows.length : Int)) + (↑y288.1.length : Int)) = 0)) && (!y280.1)) == true)) (phX (.bool y288.2.1)), phG ((true && ((decide (y50 = 0)) == false)) && (((decide ((((((((↑y228.1.length : Int) + (↑y228.2.1.length : Int)) + (↑y240.1.length : Int)) + (↑y250.1.rows.length : Int)) + (↑y250.2.1.length : Int)) + (↑y266.1.rows.length : Int)) + (↑y288.1.length : Int)) = 0)) && (!y280.1)) == true)) (phX (.bool (!y288.2.1))), phG (true && ((decide (y50 = 0)) == false)) (phX (.bool (((decide ((((((((↑y228.1.length : Int) + (↑y228.2.1.length : Int)) + (↑y240.1.length : Int)) + (↑y250.1.rows.length : Int)) + (↑y250.2.1.length : Int)) + (↑y266.1.rows.length : Int)) + (↑y288.1.length : Int)) = 0)) && (!y280.1)) && (!y288.2.1)))), phX (.bool ((decide (y50 = 0)) || (((decide ((((((((↑y228.1.length : Int) + (↑y228.2.1.length : Int)) + (↑y240.1.length : Int)) + (↑y250.1.rows.length : Int)) + (↑y250.2.1.length : Int)) + (↑y266.1.rows.length : Int)) + (↑y288.1.length : Int)) = 0)) && (!y280.1)) && (!y288.2.1)))), phX (.bool ((decide (y50 = 0)) || (((decide ((((((((↑y228.1.length : Int) + (↑y228.2.1.length : Int)) + (↑y240.1.length : Int)) + (↑y250.1.rows.length : Int)) + (↑y250.2.1.length : Int)) + (↑y266.1.rows.length : Int)) + (↑y288.1.length : Int)) = 0)) && (!y280.1)) && (!y288.2.1)))), phG (true && (((decide (y50 = 0)) || (((decide ((((((((↑y228.1.length : Int) + (↑y228.2.1.length : Int)) + (↑y240.1.length : Int)) + (↑y250.1.rows.length : Int)) + (↑y250.2.1.length : Int)) + (↑y266.1.rows.length : Int)) + (↑y288.1.length : Int)) = 0)) && (!y280.1)) && (!y288.2.1))) == true)) (phX (.bool (y383.getD default))), phX (.bool (((decide (y50 = 0)) || (((decide ((((((((↑y228.1.length : Int) + (↑y228.2.1.length : Int)) + (↑y240.1.length : Int)) + (↑y250.1.rows.length : Int)) + (↑y250.2.1.length : Int)) + (↑y266.1.rows.length : Int)) + (↑y288.1.length : Int)) = 0)) && (!y280.1)) && (!y288.2.1))) && (y383.getD default))), phX (.bool (((decide (y50 = 0)) || (((decide ((((((((↑y228.1.length : Int) + (↑y228.2.1.length : Int)) + (↑y240.1.length : Int)) + (↑y250.1.rows.length : Int)) + (↑y250.2.1.length : Int)) + (↑y266.1.rows.length : Int)) + (↑y288.1.length : Int)) = 0)) && (!y280.1)) && (!y288.2.1))) && (y383.getD default)))] (by as_aux_lemma => kernel_rfl) (by as_aux_lemma => kernel_rfl) (monoOk_of ⟨mono_x, mono_x, mono_x, (mono_g mono_x), (mono_g mono_x), (mono_g mono_x), (mono_g mono_x), (mono_g mono_x), (mono_g mono_x), (mono_g mono_x), (mono_g mono_x), (mono_g mono_x), (mono_g mono_x), (mono_g mono_x), (mono_g mono_x), (mono_g mono_x), (mono_g mono_x), (mono_g mono_x), (mono_g mono_x), (mono_g mono_x), (mono_g mono_x), (mono_g mono_x), (mono_g mono_x), (mono_g mono_x), (mono_g mono_x), (mono_g mono_x), (mono_g mono_x), (mono_g mono_x), (mono_g mono_x), (mono_g mono_x), (mono_g mono_x), (mono_g mono_x), (mono_g mono_x), (mono_g mono_x), mono_x, mono_x, (mono_g mono_x), mono_x, mono_x, trivial⟩) ⟨?_, ?_, ?_, ?_, ?_, ?_, ?_, ?_, ?_, ?_, ?_, ?_, ?_, ?_, ?_, ?_, ?_, ?_, ?_, ?_, ?_, ?_, ?_, ?_, ?_, ?_, ?_, ?_, ?_, ?_, ?_, ?_, ?_, ?_, ?_, ?_, ?_, ?_, ?_, trivial⟩ fun R385 le386 => ?_
                        · intro l R0q hle ha hd
                          have a8 : l 8 = (.int .i64 y50) := ha 8 rfl
                          exact gstep_plain rfl rfl rfl (ph_val (val_move a8))
                        · intro l R1q hle ha hd
                          obtain ⟨d0, _⟩ := hd
                          have f188 : l 188 = (.int .i64 y50) := d0 rfl
                          exact gstep_plain rfl rfl rfl (ph_val (val_eql f188 rfl))
                        · intro l R2q hle ha hd
                          obtain ⟨d0, _⟩ := hd
                          have f189 : l 189 = (.bool (decide (y50 = 0))) := d0 rfl
                          exact gstep_plain rfl rfl rfl (ph_val (val_move f189))
                        · intro l R3q hle ha hd
                          obtain ⟨d0, _⟩ := hd
                          have a15 : l 15 = v234 := ha 15 rfl
                          exact gstep_guard (Gj := true) (Bj := decide (y50 = 0)) rfl rfl rfl (gtrue (d0 rfl)) rfl (fun hG hB => ph_val (val_move a15))
                        · intro l R4q hle ha hd
                          obtain ⟨d0, d1, _⟩ := hd
                          have f191g : phG (true && ((decide (y50 = 0)) == false)) (phX v234) (l 191) R4q := d0 rfl
                          exact gstep_guard (Gj := true) (Bj := decide (y50 = 0)) rfl rfl rfl (gtrue (d1 rfl)) rfl (fun hG hB => ph_val (val_lenR rfl Try.underlying29 (show l 191 = v234 from f191g.1 (gandT rfl hB)) (sl_s ((h235.mono (((((le245.trans le255).trans le271).trans le285).trans le291).trans le319)).mono hle))))
                        · intro l R5q hle ha hd
                          obtain ⟨d0, _⟩ := hd
                          have a16 : l 16 = v236 := ha 16 rfl
                          exact gstep_guard (Gj := true) (Bj := decide (y50 = 0)) rfl rfl rfl (gtrue (d0 rfl)) rfl (fun hG hB => ph_val (val_move a16))
                        · intro l R6q hle ha hd
                          obtain ⟨d0, d1, _⟩ := hd
                          have f193g : phG (true && ((decide (y50 = 0)) == false)) (phX v236) (l 193) R6q := d0 rfl
                          exact gstep_guard (Gj := true) (Bj := decide (y50 = 0)) rfl rfl rfl (gtrue (d1 rfl)) rfl (fun hG hB => ph_val (val_lenR rfl Try.underlying30 (show l 193 = v236 from f193g.1 (gandT rfl hB)) (sl_s ((h237.mono (((((le245.trans le255).trans le271).trans le285).trans le291).trans le319)).mono hle))))
                        · intro l R7q hle ha hd
                          obtain ⟨d0, d1, d2, _⟩ := hd
                          have f192g : phG (true && ((decide (y50 = 0)) == false)) (phX (.int .i64 (↑y228.1.length : Int))) (l 192) R7q := d0 rfl
                          have f194g : phG (true && ((decide (y50 = 0)) == false)) (phX (.int .i64 (↑y228.2.1.length : Int))) (l 194) R7q := d1 rfl
                          exact gstep_guard (Gj := true) (Bj := decide (y50 = 0)) rfl rfl rfl (gtrue (d2 rfl)) rfl (fun hG hB => ph_val (val_add (show l 192 = (.int .i64 (↑y228.1.length : Int)) from f192g.1 (gandT rfl hB)) (show l 194 = (.int .i64 (↑y228.2.1.length : Int)) from f194g.1 (gandT rfl hB)) (g377 (gandT hG hB))))
                        · intro l R8q hle ha hd
                          obtain ⟨d0, _⟩ := hd
                          have a18 : l 18 = v246 := ha 18 rfl
                          exact gstep_guard (Gj := true) (Bj := decide (y50 = 0)) rfl rfl rfl (gtrue (d0 rfl)) rfl (fun hG hB => ph_val (val_move a18))
                        · intro l R9q hle ha hd
                          obtain ⟨d0, d1, _⟩ := hd
                          have f196g : phG (true && ((decide (y50 = 0)) == false)) (phX v246) (l 196) R9q := d0 rfl
                          exact gstep_guard (Gj := true) (Bj := decide (y50 = 0)) rfl rfl rfl (gtrue (d1 rfl)) rfl (fun hG hB => ph_val (val_lenR rfl Try.underlying36 (show l 196 = v246 from f196g.1 (gandT rfl hB)) (sl_s ((h247.mono ((((le255.trans le271).trans le285).trans le291).trans le319)).mono hle))))
                        · intro l R10q hle ha hd
                          obtain ⟨d0, d1, d2, _⟩ := hd
                          have f195g : phG (true && ((decide (y50 = 0)) == false)) (phX (.int .i64 ((↑y228.1.length : Int) + (↑y228.2.1.length : Int)))) (l 195) R10q := d0 rfl
                          have f197g : phG (true && ((decide (y50 = 0)) == false)) (phX (.int .i64 (↑y240.1.length : Int))) (l 197) R10q := d1 rfl
                          exact gstep_guard (Gj := true) (Bj := decide (y50 = 0)) rfl rfl rfl (gtrue (d2 rfl)) rfl (fun hG hB => ph_val (val_add (show l 195 = (.int .i64 ((↑y228.1.length : Int) + (↑y228.2.1.length : Int))) from f195g.1 (gandT rfl hB)) (show l 197 = (.int .i64 (↑y240.1.length : Int)) from f197g.1 (gandT rfl hB)) (g378 (gandT hG hB))))
                        · intro l R11q hle ha hd
                          obtain ⟨d0, _⟩ := hd
                          have a20 : l 20 = (.pointer (some ⟨b260, 0, none⟩)) := ha 20 rfl
                          exact gstep_guard (Gj := true) (Bj := decide (y50 = 0)) rfl rfl rfl (gtrue (d0 rfl)) rfl (fun hG hB => ph_val (val_fieldB fd27_2 a20))
                        · intro l R12q hle ha hd
                          obtain ⟨d0, d1, _⟩ := hd
                          have f199g : phG (true && ((decide (y50 = 0)) == false)) (phX (.pointer (some ⟨b260, 2, none⟩))) (l 199) R12q := d0 rfl
                          exact gstep_guard (Gj := true) (Bj := decide (y50 = 0)) rfl rfl rfl (gtrue (d1 rfl)) rfl (fun hG hB => ph_val (val_loadB (i := 1) ag25 (show l 199 = (.pointer (some ⟨b260, 2, none⟩)) from f199g.1 (gandT rfl hB)) rfl rfl))
                        · intro l R13q hle ha hd
                          obtain ⟨d0, d1, _⟩ := hd
                          have f200g : phG (true && ((decide (y50 = 0)) == false)) (phX v262) (l 200) R13q := d0 rfl
                          exact gstep_guard (Gj := true) (Bj := decide (y50 = 0)) rfl rfl rfl (gtrue (d1 rfl)) rfl (fun hG hB => ph_val (val_lenR rfl Try.underlying25 (show l 200 = v262 from f200g.1 (gandT rfl hB)) (sl_s ((h263.mono (((le271.trans le285).trans le291).trans le319)).mono hle))))
                        · intro l R14q hle ha hd
                          obtain ⟨d0, d1, d2, _⟩ := hd
                          have f198g : phG (true && ((decide (y50 = 0)) == false)) (phX (.int .i64 (((↑y228.1.length : Int) + (↑y228.2.1.length : Int)) + (↑y240.1.length : Int)))) (l 198) R14q := d0 rfl
                          have f201g : phG (true && ((decide (y50 = 0)) == false)) (phX (.int .i64 (↑y250.1.rows.length : Int))) (l 201) R14q := d1 rfl
                          exact gstep_guard (Gj := true) (Bj := decide (y50 = 0)) rfl rfl rfl (gtrue (d2 rfl)) rfl (fun hG hB => ph_val (val_add (show l 198 = (.int .i64 (((↑y228.1.length : Int) + (↑y228.2.1.length : Int)) + (↑y240.1.length : Int))) from f198g.1 (gandT rfl hB)) (show l 201 = (.int .i64 (↑y250.1.rows.length : Int)) from f201g.1 (gandT rfl hB)) (g379 (gandT hG hB))))
                        · intro l R15q hle ha hd
                          obtain ⟨d0, _⟩ := hd
                          have a21 : l 21 = v258 := ha 21 rfl
                          exact gstep_guard (Gj := true) (Bj := decide (y50 = 0)) rfl rfl rfl (gtrue (d0 rfl)) rfl (fun hG hB => ph_val (val_move a21))
                        · intro l R16q hle ha hd
                          obtain ⟨d0, d1, _⟩ := hd
                          have f203g : phG (true && ((decide (y50 = 0)) == false)) (phX v258) (l 203) R16q := d0 rfl
                          exact gstep_guard (Gj := true) (Bj := decide (y50 = 0)) rfl rfl rfl (gtrue (d1 rfl)) rfl (fun hG hB => ph_val (val_lenR rfl Try.underlying36 (show l 203 = v258 from f203g.1 (gandT rfl hB)) (sl_s ((h259.mono (((le271.trans le285).trans le291).trans le319)).mono hle))))
                        · intro l R17q hle ha hd
                          obtain ⟨d0, d1, d2, _⟩ := hd
                          have f202g : phG (true && ((decide (y50 = 0)) == false)) (phX (.int .i64 ((((↑y228.1.length : Int) + (↑y228.2.1.length : Int)) + (↑y240.1.length : Int)) + (↑y250.1.rows.length : Int)))) (l 202) R17q := d0 rfl
                          have f204g : phG (true && ((decide (y50 = 0)) == false)) (phX (.int .i64 (↑y250.2.1.length : Int))) (l 204) R17q := d1 rfl
                          exact gstep_guard (Gj := true) (Bj := decide (y50 = 0)) rfl rfl rfl (gtrue (d2 rfl)) rfl (fun hG hB => ph_val (val_add (show l 202 = (.int .i64 ((((↑y228.1.length : Int) + (↑y228.2.1.length : Int)) + (↑y240.1.length : Int)) + (↑y250.1.rows.length : Int))) from f202g.1 (gandT rfl hB)) (show l 204 = (.int .i64 (↑y250.2.1.length : Int)) from f204g.1 (gandT rfl hB)) (g380 (gandT hG hB))))
                        · intro l R18q hle ha hd
                          obtain ⟨d0, _⟩ := hd
                          have a23 : l 23 = (.pointer (some ⟨b274, 0, none⟩)) := ha 23 rfl
                          exact gstep_guard (Gj := true) (Bj := decide (y50 = 0)) rfl rfl rfl (gtrue (d0 rfl)) rfl (fun hG hB => ph_val (val_fieldB fd27_2 a23))
                        · intro l R19q hle ha hd
                          obtain ⟨d0, d1, _⟩ := hd
                          have f206g : phG (true && ((decide (y50 = 0)) == false)) (phX (.pointer (some ⟨b274, 2, none⟩))) (l 206) R19q := d0 rfl
                          exact gstep_guard (Gj := true) (Bj := decide (y50 = 0)) rfl rfl rfl (gtrue (d1 rfl)) rfl (fun hG hB => ph_val (val_loadB (i := 0) ag25 (show l 206 = (.pointer (some ⟨b274, 2, none⟩)) from f206g.1 (gandT rfl hB)) rfl rfl))
                        · intro l R20q hle ha hd
                          obtain ⟨d0, d1, _⟩ := hd
                          have f207g : phG (true && ((decide (y50 = 0)) == false)) (phX v276) (l 207) R20q := d0 rfl
                          exact gstep_guard (Gj := true) (Bj := decide (y50 = 0)) rfl rfl rfl (gtrue (d1 rfl)) rfl (fun hG hB => ph_val (val_lenR rfl Try.underlying25 (show l 207 = v276 from f207g.1 (gandT rfl hB)) (sl_s ((h277.mono ((le285.trans le291).trans le319)).mono hle))))
                        · intro l R21q hle ha hd
                          obtain ⟨d0, d1, d2, _⟩ := hd
                          have f205g : phG (true && ((decide (y50 = 0)) == false)) (phX (.int .i64 (((((↑y228.1.length : Int) + (↑y228.2.1.length : Int)) + (↑y240.1.length : Int)) + (↑y250.1.rows.length : Int)) + (↑y250.2.1.length : Int)))) (l 205) R21q := d0 rfl
                          have f208g : phG (true && ((decide (y50 = 0)) == false)) (phX (.int .i64 (↑y266.1.rows.length : Int))) (l 208) R21q := d1 rfl
                          exact gstep_guard (Gj := true) (Bj := decide (y50 = 0)) rfl rfl rfl (gtrue (d2 rfl)) rfl (fun hG hB => ph_val (val_add (show l 205 = (.int .i64 (((((↑y228.1.length : Int) + (↑y228.2.1.length : Int)) + (↑y240.1.length : Int)) + (↑y250.1.rows.length : Int)) + (↑y250.2.1.length : Int))) from f205g.1 (gandT rfl hB)) (show l 208 = (.int .i64 (↑y266.1.rows.length : Int)) from f208g.1 (gandT rfl hB)) (g381 (gandT hG hB))))
                        · intro l R22q hle ha hd
                          obtain ⟨d0, _⟩ := hd
                          have a27 : l 27 = v308 := ha 27 rfl
                          exact gstep_guard (Gj := true) (Bj := decide (y50 = 0)) rfl rfl rfl (gtrue (d0 rfl)) rfl (fun hG hB => ph_val (val_move a27))
                        · intro l R23q hle ha hd
                          obtain ⟨d0, d1, _⟩ := hd
                          have f210g : phG (true && ((decide (y50 = 0)) == false)) (phX v308) (l 210) R23q := d0 rfl
                          exact gstep_guard (Gj := true) (Bj := decide (y50 = 0)) rfl rfl rfl (gtrue (d1 rfl)) rfl (fun hG hB => ph_val (val_lenR rfl Try.underlying36 (show l 210 = v308 from f210g.1 (gandT rfl hB)) (sl_s ((h309.mono le319).mono hle))))
                        · intro l R24q hle ha hd
                          obtain ⟨d0, d1, d2, _⟩ := hd
                          have f209g : phG (true && ((decide (y50 = 0)) == false)) (phX (.int .i64 ((((((↑y228.1.length : Int) + (↑y228.2.1.length : Int)) + (↑y240.1.length : Int)) + (↑y250.1.rows.length : Int)) + (↑y250.2.1.length : Int)) + (↑y266.1.rows.length : Int)))) (l 209) R24q := d0 rfl
                          have f211g : phG (true && ((decide (y50 = 0)) == false)) (phX (.int .i64 (↑y288.1.length : Int))) (l 211) R24q := d1 rfl
                          exact gstep_guard (Gj := true) (Bj := decide (y50 = 0)) rfl rfl rfl (gtrue (d2 rfl)) rfl (fun hG hB => ph_val (val_add (show l 209 = (.int .i64 ((((((↑y228.1.length : Int) + (↑y228.2.1.length : Int)) + (↑y240.1.length : Int)) + (↑y250.1.rows.length : Int)) + (↑y250.2.1.length : Int)) + (↑y266.1.rows.length : Int))) from f209g.1 (gandT rfl hB)) (show l 211 = (.int .i64 (↑y288.1.length : Int)) from f211g.1 (gandT rfl hB)) (g382 (gandT hG hB))))
                        · intro l R25q hle ha hd
                          obtain ⟨d0, d1, _⟩ := hd
                          have f212g : phG (true && ((decide (y50 = 0)) == false)) (phX (.int .i64 (((((((↑y228.1.length : Int) + (↑y228.2.1.length : Int)) + (↑y240.1.length : Int)) + (↑y250.1.rows.length : Int)) + (↑y250.2.1.length : Int)) + (↑y266.1.rows.length : Int)) + (↑y288.1.length : Int)))) (l 212) R25q := d0 rfl
                          exact gstep_guard (Gj := true) (Bj := decide (y50 = 0)) rfl rfl rfl (gtrue (d1 rfl)) rfl (fun hG hB => ph_val (val_eql (show l 212 = (.int .i64 (((((((↑y228.1.length : Int) + (↑y228.2.1.length : Int)) + (↑y240.1.length : Int)) + (↑y250.1.rows.length : Int)) + (↑y250.2.1.length : Int)) + (↑y266.1.rows.length : Int)) + (↑y288.1.length : Int))) from f212g.1 (gandT rfl hB)) rfl))
                        · intro l R26q hle ha hd
                          obtain ⟨d0, d1, d2, _⟩ := hd
                          have f213g : phG (true && ((decide (y50 = 0)) == false)) (phX (.bool (decide ((((((((↑y228.1.length : Int) + (↑y228.2.1.length : Int)) + (↑y240.1.length : Int)) + (↑y250.1.rows.length : Int)) + (↑y250.2.1.length : Int)) + (↑y266.1.rows.length : Int)) + (↑y288.1.length : Int)) = 0)))) (l 213) R26q := d0 rfl
                          exact gstep_guard (Gj := true) (Bj := decide (y50 = 0)) rfl rfl rfl (gtrue (d1 rfl)) rfl (fun hG hB => ph_val (val_move (show l 213 = (.bool (decide ((((((((↑y228.1.length : Int) + (↑y228.2.1.length : Int)) + (↑y240.1.length : Int)) + (↑y250.1.rows.length : Int)) + (↑y250.2.1.length : Int)) + (↑y266.1.rows.length : Int)) + (↑y288.1.length : Int)) = 0))) from f213g.1 (gandT rfl hB))))
                        · intro l R27q hle ha hd
                          obtain ⟨d0, _⟩ := hd
                          have a25 : l 25 = (.bool y280.1) := ha 25 rfl
                          exact gstep_guard (Gj := (true && ((decide (y50 = 0)) == false))) (Bj := decide ((((((((↑y228.1.length : Int) + (↑y228.2.1.length : Int)) + (↑y240.1.length : Int)) + (↑y250.1.rows.length : Int)) + (↑y250.2.1.length : Int)) + (↑y266.1.rows.length : Int)) + (↑y288.1.length : Int)) = 0)) rfl rfl rfl (d0 rfl) rfl (fun hG hB => ph_val (val_move a25))
                        · intro l R28q hle ha hd
                          obtain ⟨d0, d1, _⟩ := hd
                          have f215g : phG ((true && ((decide (y50 = 0)) == false)) && ((decide ((((((((↑y228.1.length : Int) + (↑y228.2.1.length : Int)) + (↑y240.1.length : Int)) + (↑y250.1.rows.length : Int)) + (↑y250.2.1.length : Int)) + (↑y266.1.rows.length : Int)) + (↑y288.1.length : Int)) = 0)) == true)) (phX (.bool y280.1)) (l 215) R28q := d0 rfl
                          exact gstep_guard (Gj := (true && ((decide (y50 = 0)) == false))) (Bj := decide ((((((((↑y228.1.length : Int) + (↑y228.2.1.length : Int)) + (↑y240.1.length : Int)) + (↑y250.1.rows.length : Int)) + (↑y250.2.1.length : Int)) + (↑y266.1.rows.length : Int)) + (↑y288.1.length : Int)) = 0)) rfl rfl rfl (d1 rfl) rfl (fun hG hB => ph_val (val_not (show l 215 = (.bool y280.1) from f215g.1 (gandT hG hB))))
                        · intro l R29q hle ha hd
                          obtain ⟨d0, d1, d2, _⟩ := hd
                          have f214g : phG (true && ((decide (y50 = 0)) == false)) (phX (.bool (decide ((((((((↑y228.1.length : Int) + (↑y228.2.1.length : Int)) + (↑y240.1.length : Int)) + (↑y250.1.rows.length : Int)) + (↑y250.2.1.length : Int)) + (↑y266.1.rows.length : Int)) + (↑y288.1.length : Int)) = 0)))) (l 214) R29q := d0 rfl
                          have f216g : phG ((true && ((decide (y50 = 0)) == false)) && ((decide ((((((((↑y228.1.length : Int) + (↑y228.2.1.length : Int)) + (↑y240.1.length : Int)) + (↑y250.1.rows.length : Int)) + (↑y250.2.1.length : Int)) + (↑y266.1.rows.length : Int)) + (↑y288.1.length : Int)) = 0)) == true)) (phX (.bool (!y280.1))) (l 216) R29q := d1 rfl
                          exact gstep_guard (Gj := true) (Bj := decide (y50 = 0)) rfl rfl rfl (gtrue (d2 rfl)) rfl (fun hG hB => ph_val (val_and (show l 214 = (.bool (decide ((((((((↑y228.1.length : Int) + (↑y228.2.1.length : Int)) + (↑y240.1.length : Int)) + (↑y250.1.rows.length : Int)) + (↑y250.2.1.length : Int)) + (↑y266.1.rows.length : Int)) + (↑y288.1.length : Int)) = 0))) from f214g.1 (gandT rfl hB)) (fun hb => (show l 216 = (.bool (!y280.1)) from f216g.1 (gandT (gandT rfl hB) hb))) rfl))
                        · intro l R30q hle ha hd
                          obtain ⟨d0, d1, d2, _⟩ := hd
                          have f217g : phG (true && ((decide (y50 = 0)) == false)) (phX (.bool ((decide ((((((((↑y228.1.length : Int) + (↑y228.2.1.length : Int)) + (↑y240.1.length : Int)) + (↑y250.1.rows.length : Int)) + (↑y250.2.1.length : Int)) + (↑y266.1.rows.length : Int)) + (↑y288.1.length : Int)) = 0)) && (!y280.1)))) (l 217) R30q := d0 rfl
                          exact gstep_guard (Gj := true) (Bj := decide (y50 = 0)) rfl rfl rfl (gtrue (d2 rfl)) rfl (fun hG hB => ph_val (val_move (show l 217 = (.bool ((decide ((((((((↑y228.1.length : Int) + (↑y228.2.1.length : Int)) + (↑y240.1.length : Int)) + (↑y250.1.rows.length : Int)) + (↑y250.2.1.length : Int)) + (↑y266.1.rows.length : Int)) + (↑y288.1.length : Int)) = 0)) && (!y280.1))) from f217g.1 (gandT rfl hB))))
                        · intro l R31q hle ha hd
                          obtain ⟨d0, _⟩ := hd
                          have a28 : l 28 = (.bool y288.2.1) := ha 28 rfl
                          exact gstep_guard (Gj := (true && ((decide (y50 = 0)) == false))) (Bj := (decide ((((((((↑y228.1.length : Int) + (↑y228.2.1.length : Int)) + (↑y240.1.length : Int)) + (↑y250.1.rows.length : Int)) + (↑y250.2.1.length : Int)) + (↑y266.1.rows.length : Int)) + (↑y288.1.length : Int)) = 0)) && (!y280.1)) rfl rfl rfl (d0 rfl) rfl (fun hG hB => ph_val (val_move a28))
                        · intro l R32q hle ha hd
                          obtain ⟨d0, d1, _⟩ := hd
                          have f219g : phG ((true && ((decide (y50 = 0)) == false)) && (((decide ((((((((↑y228.1.length : Int) + (↑y228.2.1.length : Int)) + (↑y240.1.length : Int)) + (↑y250.1.rows.length : Int)) + (↑y250.2.1.length : Int)) + (↑y266.1.rows.length : Int)) + (↑y288.1.length : Int)) = 0)) && (!y280.1)) == true)) (phX (.bool y288.2.1)) (l 219) R32q := d0 rfl
                          exact gstep_guard (Gj := (true && ((decide (y50 = 0)) == false))) (Bj := (decide ((((((((↑y228.1.length : Int) + (↑y228.2.1.length : Int)) + (↑y240.1.length : Int)) + (↑y250.1.rows.length : Int)) + (↑y250.2.1.length : Int)) + (↑y266.1.rows.length : Int)) + (↑y288.1.length : Int)) = 0)) && (!y280.1)) rfl rfl rfl (d1 rfl) rfl (fun hG hB => ph_val (val_not (show l 219 = (.bool y288.2.1) from f219g.1 (gandT hG hB))))
                        · intro l R33q hle ha hd
                          obtain ⟨d0, d1, d2, _⟩ := hd
                          have f218g : phG (true && ((decide (y50 = 0)) == false)) (phX (.bool ((decide ((((((((↑y228.1.length : Int) + (↑y228.2.1.length : Int)) + (↑y240.1.length : Int)) + (↑y250.1.rows.length : Int)) + (↑y250.2.1.length : Int)) + (↑y266.1.rows.length : Int)) + (↑y288.1.length : Int)) = 0)) && (!y280.1)))) (l 218) R33q := d0 rfl
                          have f220g : phG ((true && ((decide (y50 = 0)) == false)) && (((decide ((((((((↑y228.1.length : Int) + (↑y228.2.1.length : Int)) + (↑y240.1.length : Int)) + (↑y250.1.rows.length : Int)) + (↑y250.2.1.length : Int)) + (↑y266.1.rows.length : Int)) + (↑y288.1.length : Int)) = 0)) && (!y280.1)) == true)) (phX (.bool (!y288.2.1))) (l 220) R33q := d1 rfl
                          exact gstep_guard (Gj := true) (Bj := decide (y50 = 0)) rfl rfl rfl (gtrue (d2 rfl)) rfl (fun hG hB => ph_val (val_and (show l 218 = (.bool ((decide ((((((((↑y228.1.length : Int) + (↑y228.2.1.length : Int)) + (↑y240.1.length : Int)) + (↑y250.1.rows.length : Int)) + (↑y250.2.1.length : Int)) + (↑y266.1.rows.length : Int)) + (↑y288.1.length : Int)) = 0)) && (!y280.1))) from f218g.1 (gandT rfl hB)) (fun hb => (show l 220 = (.bool (!y288.2.1)) from f220g.1 (gandT (gandT rfl hB) hb))) rfl))
                        · intro l R34q hle ha hd
                          obtain ⟨d0, d1, _⟩ := hd
                          have f190 : l 190 = (.bool (decide (y50 = 0))) := d0 rfl
                          have f221g : phG (true && ((decide (y50 = 0)) == false)) (phX (.bool (((decide ((((((((↑y228.1.length : Int) + (↑y228.2.1.length : Int)) + (↑y240.1.length : Int)) + (↑y250.1.rows.length : Int)) + (↑y250.2.1.length : Int)) + (↑y266.1.rows.length : Int)) + (↑y288.1.length : Int)) = 0)) && (!y280.1)) && (!y288.2.1)))) (l 221) R34q := d1 rfl
                          exact gstep_plain rfl rfl rfl (ph_val (val_or f190 rfl (fun hb => (show l 221 = (.bool (((decide ((((((((↑y228.1.length : Int) + (↑y228.2.1.length : Int)) + (↑y240.1.length : Int)) + (↑y250.1.rows.length : Int)) + (↑y250.2.1.length : Int)) + (↑y266.1.rows.length : Int)) + (↑y288.1.length : Int)) = 0)) && (!y280.1)) && (!y288.2.1))) from f221g.1 (gandT rfl hb)))))
                        · intro l R35q hle ha hd
                          obtain ⟨d0, d1, _⟩ := hd
                          have f222 : l 222 = (.bool ((decide (y50 = 0)) || (((decide ((((((((↑y228.1.length : Int) + (↑y228.2.1.length : Int)) + (↑y240.1.length : Int)) + (↑y250.1.rows.length : Int)) + (↑y250.2.1.length : Int)) + (↑y266.1.rows.length : Int)) + (↑y288.1.length : Int)) = 0)) && (!y280.1)) && (!y288.2.1)))) := d0 rfl
                          exact gstep_plain rfl rfl rfl (ph_val (val_move f222))
                        · intro l R36q hle ha hd
                          obtain ⟨d0, d1, _⟩ := hd
                          exact gstep_guard (Gj := true) (Bj := (decide (y50 = 0)) || (((decide ((((((((↑y228.1.length : Int) + (↑y228.2.1.length : Int)) + (↑y240.1.length : Int)) + (↑y250.1.rows.length : Int)) + (↑y250.2.1.length : Int)) + (↑y266.1.rows.length : Int)) + (↑y288.1.length : Int)) = 0)) && (!y280.1)) && (!y288.2.1))) rfl rfl rfl (gtrue (d0 rfl)) rfl (fun hG hB => ph_callP (vs := []) en18 rfl ((by have z := (gop_def c384 (gandT hG hB)); exact c_gauntletlaw06_lives  z)) (fun _ _ h => h))
                        · intro l R37q hle ha hd
                          obtain ⟨d0, d1, _⟩ := hd
                          have f223 : l 223 = (.bool ((decide (y50 = 0)) || (((decide ((((((((↑y228.1.length : Int) + (↑y228.2.1.length : Int)) + (↑y240.1.length : Int)) + (↑y250.1.rows.length : Int)) + (↑y250.2.1.length : Int)) + (↑y266.1.rows.length : Int)) + (↑y288.1.length : Int)) = 0)) && (!y280.1)) && (!y288.2.1)))) := d0 rfl
                          have f224g : phG (true && (((decide (y50 = 0)) || (((decide ((((((((↑y228.1.length : Int) + (↑y228.2.1.length : Int)) + (↑y240.1.length : Int)) + (↑y250.1.rows.length : Int)) + (↑y250.2.1.length : Int)) + (↑y266.1.rows.length : Int)) + (↑y288.1.length : Int)) = 0)) && (!y280.1)) && (!y288.2.1))) == true)) (phX (.bool (y383.getD default))) (l 224) R37q := d1 rfl
                          exact gstep_plain rfl rfl rfl (ph_val (val_and f223 (fun hb => (show l 224 = (.bool (y383.getD default)) from f224g.1 (gandT rfl hb))) rfl))
                        · intro l R38q hle ha hd
                          obtain ⟨d0, d1, d2, d3, d4, d5, d6, d7, d8, d9, d10, d11, d12, d13, d14, d15, d16, d17, d18, d19, d20, d21, d22, d23, d24, d25, d26, d27, d28, d29, d30, d31, d32, d33, d34, d35, d36, d37, d38, d39, _⟩ := hd
                          have f225 : l 225 = (.bool (((decide (y50 = 0)) || (((decide ((((((((↑y228.1.length : Int) + (↑y228.2.1.length : Int)) + (↑y240.1.length : Int)) + (↑y250.1.rows.length : Int)) + (↑y250.2.1.length : Int)) + (↑y266.1.rows.length : Int)) + (↑y288.1.length : Int)) = 0)) && (!y280.1)) && (!y288.2.1))) && (y383.getD default))) := d0 rfl
                          exact gstep_plain rfl rfl rfl (ph_val (val_assign f225))
                        intro v387 h388
                        intro v389 h390
                        intro v391 h392
                        intro v393 h394
                        intro v395 h396
                        intro v397 h398
                        intro v399 h400
                        intro v401 h402
                        intro v403 h404
                        intro v405 h406
                        intro v407 h408
                        intro v409 h410
                        intro v411 h412
                        intro v413 h414
                        intro v415 h416
                        intro v417 h418
                        intro v419 h420
                        intro v421 h422
                        intro v423 h424
                        intro v425 h426
                        intro v427 h428
                        intro v429 h430
                        intro v431 h432
                        intro v433 h434
                        intro v435 h436
                        intro v437 h438
                        intro v439 h440
                        intro v441 h442
                        intro v443 h444
                        intro v445 h446
                        intro v447 h448
                        intro v449 h450
                        intro v451 h452
                        intro v453 h454
                        intro v455 h456
                        intro v457 h458
                        intro v459 h460
                        intro v461 h462
                        intro v463 h464
                        obtain rfl := Eq.symm h388
                        obtain rfl := Eq.symm h390
                        obtain rfl := Eq.symm h392
                        obtain rfl := Eq.symm h456
                        obtain rfl := Eq.symm h458
                        obtain rfl := Eq.symm h462
                        obtain rfl := Eq.symm h464
                        refine wo_nil ?_
                        refine wg_ret ?_
                        obtain rfl := Option.some.inj hd0
                        refine body_end (D := []) (J := [box b274 [(.int .i64 y266.1.inputs), (.int .i64 y266.1.outputs), v276] 27, box b260 [(.int .i64 y250.1.inputs), (.int .i64 y250.1.outputs), v262] 27]) (rs := [.tmp 6]) (vs := [(.bool (((decide (y50 = 0)) || (((decide ((((((((↑y228.1.length : Int) + (↑y228.2.1.length : Int)) + (↑y240.1.length : Int)) + (↑y250.1.rows.length : Int)) + (↑y250.2.1.length : Int)) + (↑y266.1.rows.length : Int)) + (↑y288.1.length : Int)) = 0)) && (!y280.1)) && (!y288.2.1))) && (y383.getD default)))]) ((((((((((((((((((le4.trans le8).trans le12).trans le21).trans le55).trans le58).trans le106).trans le110).trans le138).trans le190).trans le194).trans le233).trans le245).trans le255).trans le271).trans le285).trans le291).trans le319).trans le386) rfl rfl ⟨rfl, trivial⟩ ?_
                        exact ⟨rfl, rfl⟩
end GV
end Go.Proofs.Ytncblcdhmcmkmaa
