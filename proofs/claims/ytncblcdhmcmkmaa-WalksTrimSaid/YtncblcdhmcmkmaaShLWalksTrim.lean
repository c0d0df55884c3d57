/- The walks of the functions; printed. -/
import Derived.Test.YtncblcdhmcmkmaaShWe
import Derived.Test.YtncblcdhmcmkmaaShXa
import Derived.Test.YtncblcdhmcmkmaaShXb
import Derived.Test.YtncblcdhmcmkmaaShXc
import Derived.Test.YtncblcdhmcmkmaaShXd
import Derived.Test.YtncblcdhmcmkmaaShXe
import Derived.Test.YtncblcdhmcmkmaaShXh
import Derived.Test.YtncblcdhmcmkmaaRows
namespace Go.Proofs.Ytncblcdhmcmkmaa
namespace GV
open Go.IntWalk
set_option linter.unusedVariables false
set_option linter.unusedSimpArgs false
set_option maxRecDepth 100000
set_option maxHeartbeats 20000000
theorem c_gauntletref04_Reached {N : Nat} {R : RH} {m : Mach} {v_m : Value} (h_m : VRep (kMach false false) R v_m m) {from_ : Int} {r : (List Bool)} (hd0 : gauntletref04_Reached N m from_ = some r) : CallP Try.prog 48 #[v_m, (.int .i64 from_)] R (fun v R' => VRep (tSl true tBool) R' v r) := by
  refine callP_of_wg (args := [v_m, (.int .i64 from_)]) Try.func48 rfl rfl fun A => ?_
  rw [gauntletref04_Reached] at hd0
  refine wg_seq ?_
  refine wg_region ?_
  refine wo_boxR (T := (kMach false false)) rfl rfl h_m fun v1 R3 le4 h2 => ?_
  refine wo_v rfl (val_assign (v := (.slice none 0 0)) rfl) ?_
  refine wo_nil ?_
  refine wg_seq ?_
  refine wg_region ?_
  refine wo_fieldR rfl fd27_2 pt_Mach2 rfl h2 fun v5 h6 => ?_
  refine wo_loadR rfl ty25 rfl h6 fun v7 h8 => ?_
  refine wo_v rfl (val_lenR rfl Try.underlying25 rfl (sl_s h8)) ?_
  have g13 := (gd_some hd0).1; replace hd0 := (gd_some hd0).2
  refine wo_make (T := tBool) (m := (↑m.rows.length : Int).toNat) (c := (↑m.rows.length : Int).toNat) rfl Try.underlying30 zo4 (idx_nonneg rfl g13.1) (idx_nonneg rfl g13.1) (Nat.le_refl _) (okM_b g13) (okM_n g13) fun v9 f10 cap11 h12 => ?_
  refine wo_v rfl (val_assign (v := v9) rfl) ?_
  refine wo_nil ?_
  refine wg_seq ?_
  refine wg_region ?_
  refine wo_v rfl (val_move (v := v9) rfl) ?_
  refine wo_v rfl (val_move (v := (.int .i64 from_)) rfl) ?_
  have g15 := (gd_some hd0).1; replace hd0 := (gd_some hd0).2
  refine wo_indexO (i := from_.toNat) rfl sl30 rfl h12 (idx_nonneg rfl g15.1) (okI_lt g15) fun v16 h17 => ?_
  refine wo_storeO (i := from_.toNat) (j := 0) ty4 h12 rfl rfl h17 (okI_lt g15) rfl (vrep_bool.2 rfl) fun f18 h19 => ?_
  refine wo_nil ?_
  replace hd0 := bd_some hd0; obtain ⟨o20, hd1, hd0⟩ := hd0
  refine wg_meet (γ := (List Bool) × Frag) true [6, 17, 18, 19, 20, 21, 7, 24, 25, 26, 27, 28, 8, 31, 32, 33, 34, 37, 38, 39, 40, 41, 42, 43, 44, 45, 9, 46, 47, 48, 49, 50, 51, 52, 53, 54, 55, 56, 35, 36, 29, 30, 22, 23] (fun g => []) (fun g => [g.2] ++ A) (fun g R => o20 = g.1 ∧ ORep tBool R g.2 v9 g.1 ∧ capOf v9 = g.1.length ∧ True) ?_ ?_
  ·
    refine wg_seq ?_
    refine wg_region ?_
    refine wo_v rfl (val_assign (v := (.int .i64 0)) rfl) ?_
    refine wo_nil ?_
    refine wg_block ?_
    refine wg_loopS (γ := Nat × Int × (List Bool) × Frag) true [17, 18, 19, 20, 21, 7, 24, 25, 26, 27, 28, 8, 31, 32, 33, 34, 37, 38, 39, 40, 41, 42, 43, 44, 45, 9, 46, 47, 48, 49, 50, 51, 52, 53, 54, 55, 56, 35, 36, 29, 30, 22, 23, 6] (fun g => [(6, (.int .i64 g.2.1))]) (fun g => [g.2.2.2] ++ A) (fun g R => gauntletref04_Reached_L1 N m g.1 g.2.1 g.2.2.1 = some o20 ∧ ORep tBool R g.2.2.2 v9 g.2.2.1 ∧ capOf v9 = g.2.2.1.length ∧ True) (fun g => g.1) (N, 0, (up (mk (↑m.rows.length : Int) false) from_ true), f18) ⟨rfl, trivial⟩ ⟨[], List.Perm.refl _⟩ ⟨hd1, h19, ((cap11.trans List.length_replicate.symm).trans List.length_set.symm), trivial⟩ (fun _ => rfl) ?_
    clear hd1
    rintro ⟨F26, x27, x28, f31⟩ j142 D143 R29 hD144 le30 ⟨hd1, h32, ht33, _⟩
    obtain rfl := hD144 rfl
    rcases F26 with _ | F26
    · exact none_elim hd1
    replace hd1 : gauntletref04_Reached_L1 N m (F26 + 1) x27 x28 = some o20 := hd1; rw [gauntletref04_Reached_L1] at hd1
    refine wg_seq ?_
    refine wg_seq ?_
    refine wg_region ?_
    refine wo_v rfl (val_move (v := (.int .i64 x27)) rfl) ?_
    refine wo_fieldR rfl fd27_2 pt_Mach2 rfl (h2.mono le30) fun v34 h35 => ?_
    refine wo_loadR rfl ty25 rfl h35 fun v36 h37 => ?_
    refine wo_v rfl (val_lenR rfl Try.underlying25 rfl (sl_s h37)) ?_
    refine wo_v rfl (val_lss rfl rfl) ?_
    refine wo_nil ?_
    refine wg_cond rfl (fun e38 => ?_) (fun e38 => ?_)
    · replace hd1 := sel_t e38 hd1; clear e38
      refine wg_skip ?_
      replace hd1 := bd_some hd1; obtain ⟨o39, hd2, hd1⟩ := hd1
      refine wg_meet (γ := (List Bool) × Frag) true [7, 24, 25, 26, 27, 28, 8, 31, 32, 33, 34, 37, 38, 39, 40, 41, 42, 43, 44, 45, 9, 46, 47, 48, 49, 50, 51, 52, 53, 54, 55, 56, 35, 36, 29, 30] (fun g => []) (fun g => [g.2] ++ A) (fun g R => o39 = g.1 ∧ ORep tBool R g.2 v9 g.1 ∧ capOf v9 = g.1.length ∧ True) ?_ ?_
      ·
        refine wg_block ?_
        refine wg_seq ?_
        refine wg_region ?_
        refine wo_v rfl (val_assign (v := (.int .i64 0)) rfl) ?_
        refine wo_nil ?_
        refine wg_block ?_
        refine wg_loopS (γ := Nat × Int × (List Bool) × Frag) true [24, 25, 26, 27, 28, 8, 31, 32, 33, 34, 37, 38, 39, 40, 41, 42, 43, 44, 45, 9, 46, 47, 48, 49, 50, 51, 52, 53, 54, 55, 56, 35, 36, 29, 30, 7] (fun g => [(7, (.int .i64 g.2.1))]) (fun g => [g.2.2.2] ++ A) (fun g R => gauntletref04_Reached_L2 N m g.1 g.2.1 g.2.2.1 = some o39 ∧ ORep tBool R g.2.2.2 v9 g.2.2.1 ∧ capOf v9 = g.2.2.1.length ∧ True) (fun g => g.1) (N, 0, x28, f31) ⟨rfl, trivial⟩ ⟨[], List.Perm.refl _⟩ ⟨hd2, h32, ht33, trivial⟩ (fun _ => rfl) ?_
        clear hd2
        rintro ⟨F45, x46, x47, f50⟩ j135 D136 R48 hD137 le49 ⟨hd2, h51, ht52, _⟩
        obtain rfl := hD137 rfl
        rcases F45 with _ | F45
        · exact none_elim hd2
        replace hd2 : gauntletref04_Reached_L2 N m (F45 + 1) x46 x47 = some o39 := hd2; rw [gauntletref04_Reached_L2] at hd2
        refine wg_seq ?_
        refine wg_seq ?_
        refine wg_region ?_
        refine wo_v rfl (val_move (v := (.int .i64 x46)) rfl) ?_
        refine wo_fieldR rfl fd27_2 pt_Mach2 rfl (h2.mono (le30.trans le49)) fun v53 h54 => ?_
        refine wo_loadR rfl ty25 rfl h54 fun v55 h56 => ?_
        refine wo_v rfl (val_lenR rfl Try.underlying25 rfl (sl_s h56)) ?_
        refine wo_v rfl (val_lss rfl rfl) ?_
        refine wo_nil ?_
        refine wg_cond rfl (fun e57 => ?_) (fun e57 => ?_)
        · replace hd2 := sel_t e57 hd2; clear e57
          refine wg_skip ?_
          replace hd2 := bd_some hd2; obtain ⟨o58, hd3, hd2⟩ := hd2
          refine wg_meet (γ := (List Bool) × Frag) true [8, 31, 32, 33, 34, 37, 38, 39, 40, 41, 42, 43, 44, 45, 9, 46, 47, 48, 49, 50, 51, 52, 53, 54, 55, 56, 35, 36] (fun g => []) (fun g => [g.2] ++ A) (fun g R => o58 = g.1 ∧ ORep tBool R g.2 v9 g.1 ∧ capOf v9 = g.1.length ∧ True) ?_ ?_
          ·
            refine wg_block ?_
            refine wg_seq ?_
            refine wg_region ?_
            refine wo_v rfl (val_assign (v := (.int .i64 0)) rfl) ?_
            refine wo_nil ?_
            refine wg_block ?_
            refine wg_loopS (γ := Nat × Int × (List Bool) × Frag) true [31, 32, 33, 34, 37, 38, 39, 40, 41, 42, 43, 44, 45, 9, 46, 47, 48, 49, 50, 51, 52, 53, 54, 55, 56, 35, 36, 8] (fun g => [(8, (.int .i64 g.2.1))]) (fun g => [g.2.2.2] ++ A) (fun g R => gauntletref04_Reached_L3 N m x46 g.1 g.2.1 g.2.2.1 = some o58 ∧ ORep tBool R g.2.2.2 v9 g.2.2.1 ∧ capOf v9 = g.2.2.1.length ∧ True) (fun g => g.1) (N, 0, x47, f50) ⟨rfl, trivial⟩ ⟨[], List.Perm.refl _⟩ ⟨hd3, h51, ht52, trivial⟩ (fun _ => rfl) ?_
            clear hd3
            rintro ⟨F64, x65, x66, f69⟩ j128 D129 R67 hD130 le68 ⟨hd3, h70, ht71, _⟩
            obtain rfl := hD130 rfl
            rcases F64 with _ | F64
            · exact none_elim hd3
            replace hd3 : gauntletref04_Reached_L3 N m x46 (F64 + 1) x65 x66 = some o58 := hd3; rw [gauntletref04_Reached_L3] at hd3
            refine wg_seq ?_
            refine wg_seq ?_
            refine wg_region ?_
            refine wo_v rfl (val_move (v := (.int .i64 x65)) rfl) ?_
            refine wo_fieldR rfl fd27_0 pt_Mach0 rfl (h2.mono ((le30.trans le49).trans le68)) fun v72 h73 => ?_
            refine wo_loadR rfl ty3 rfl h73 fun v74 h75 => ?_
            obtain rfl := vrep_int.1 h75
            refine wo_v rfl (val_lss rfl rfl) ?_
            refine wo_nil ?_
            refine wg_cond rfl (fun e76 => ?_) (fun e76 => ?_)
            · replace hd3 := sel_t e76 hd3; clear e76
              refine wg_skip ?_
              replace hd3 := bd_some hd3; obtain ⟨o77, hd4, hd3⟩ := hd3
              refine wg_meet (γ := (List Bool) × Frag) true [37, 38, 39, 40, 41, 42, 43, 44, 45, 9, 46, 47, 48, 49, 50, 51, 52, 53, 54, 55, 56] (fun g => []) (fun g => [g.2] ++ A) (fun g R => o77 = g.1 ∧ ORep tBool R g.2 v9 g.1 ∧ capOf v9 = g.1.length ∧ True) ?_ ?_
              ·
                refine wg_block ?_
                refine wg_seq ?_
                refine wg_region ?_
                refine wo_fieldR rfl fd27_2 pt_Mach2 rfl (h2.mono ((le30.trans le49).trans le68)) fun v83 h84 => ?_
                refine wo_loadR rfl ty25 rfl h84 fun v85 h86 => ?_
                refine wo_v rfl (val_move (v := (.int .i64 x46)) rfl) ?_
                have g87 := (gd_some hd4).1; replace hd4 := (gd_some hd4).2
                refine wo_indexR (i := x46.toNat) rfl sl25 rfl (sl_s h86) (idx_nonneg rfl g87.1) (okI_lt g87) fun v88 h89 => ?_
                refine wo_loadR rfl ty50 rfl h89 fun v90 h91 => ?_
                refine wo_v rfl (val_move (v := (.int .i64 x65)) rfl) ?_
                have g92 := (gd_some hd4).1; replace hd4 := (gd_some hd4).2
                refine wo_indexR (i := x65.toNat) rfl sl50 rfl (sl_s h91) (idx_nonneg rfl g92.1) (okI_lt g92) fun v93 h94 => ?_
                refine wo_fieldR rfl fd49_0 pt_Edge0 rfl h94 fun v95 h96 => ?_
                refine wo_loadR rfl ty3 rfl h96 fun v97 h98 => ?_
                obtain rfl := vrep_int.1 h98
                refine wo_v rfl (val_assign (v := (.int .i64 ((ix (ix m.rows x46) x65).to))) rfl) ?_
                refine wo_nil ?_
                refine wg_seq ?_
                have g99 := (gd_some hd4).1; replace hd4 := (gd_some hd4).2
                refine wg_guarded 8 [] [phX v9, phX (.int .i64 x46), (fun u _ => OPtr tBool v9 x66 u x46.toNat), phX (.bool (ix x66 x46)), phX (.bool (ix x66 x46)), phG (true && ((ix x66 x46) == true)) (phX (.int .i64 ((ix (ix m.rows x46) x65).to))), phG (true && ((ix x66 x46) == true)) (phX (.bool (decide (0 ≤ ((ix (ix m.rows x46) x65).to))))), phX (.bool ((ix x66 x46) && (decide (0 ≤ ((ix (ix m.rows x46) x65).to)))))] (by kernel_rfl) (by kernel_rfl) (monoOk_of ⟨mono_x, mono_x, (fun _ _ _ _ h => h), mono_x, mono_x, (mono_g mono_x), (mono_g mono_x), mono_x, trivial⟩) ⟨?_, ?_, ?_, ?_, ?_, ?_, ?_, ?_, trivial⟩ fun R100 le101 => ?_
                · intro l R0q hle ha hd
                  have a5 : l 5 = v9 := ha 5 rfl
                  exact gstep_plain rfl rfl rfl (ph_val (val_move a5))
                · intro l R1q hle ha hd
                  have a7 : l 7 = (.int .i64 x46) := ha 7 rfl
                  exact gstep_plain rfl rfl rfl (ph_val (val_move a7))
                · intro l R2q hle ha hd
                  obtain ⟨d0, d1, _⟩ := hd
                  have f46 : l 46 = v9 := d0 rfl
                  have f47 : l 47 = (.int .i64 x46) := d1 rfl
                  exact gstep_plain rfl rfl rfl (ph_indexO (i := x46.toNat) sl30 f46 (h70.mono hle) (idx_nonneg f47 g99.1) (okI_lt g99))
                · intro l R3q hle ha hd
                  obtain ⟨d0, _⟩ := hd
                  have f48 : (fun u _ => OPtr tBool v9 x66 u x46.toNat) (l 48) R3q := d0 rfl
                  exact gstep_plain rfl rfl rfl (ph_exact (ph_loadO (i := x46.toNat) (j := 0) ty4 (h70.mono hle) rfl rfl f48 (okI_lt g99)) (fun _ _ h => vrep_bool.1 h))
                · intro l R4q hle ha hd
                  obtain ⟨d0, _⟩ := hd
                  have f49 : l 49 = (.bool (ix x66 x46)) := d0 rfl
                  exact gstep_plain rfl rfl rfl (ph_val (val_move f49))
                · intro l R5q hle ha hd
                  obtain ⟨d0, _⟩ := hd
                  have a9 : l 9 = (.int .i64 ((ix (ix m.rows x46) x65).to)) := ha 9 rfl
                  exact gstep_guard (Gj := true) (Bj := (ix x66 x46)) rfl rfl rfl (gtrue (d0 rfl)) rfl (fun hG hB => ph_val (val_move a9))
                · intro l R6q hle ha hd
                  obtain ⟨d0, d1, _⟩ := hd
                  have f51g : phG (true && ((ix x66 x46) == true)) (phX (.int .i64 ((ix (ix m.rows x46) x65).to))) (l 51) R6q := d0 rfl
                  exact gstep_guard (Gj := true) (Bj := (ix x66 x46)) rfl rfl rfl (gtrue (d1 rfl)) rfl (fun hG hB => ph_val (val_geq (show l 51 = (.int .i64 ((ix (ix m.rows x46) x65).to)) from f51g.1 (gandT rfl hB)) rfl))
                · intro l R7q hle ha hd
                  obtain ⟨d0, d1, _⟩ := hd
                  have f50 : l 50 = (.bool (ix x66 x46)) := d0 rfl
                  have f52g : phG (true && ((ix x66 x46) == true)) (phX (.bool (decide (0 ≤ ((ix (ix m.rows x46) x65).to))))) (l 52) R7q := d1 rfl
                  exact gstep_plain rfl rfl rfl (ph_val (val_and f50 (fun hb => (show l 52 = (.bool (decide (0 ≤ ((ix (ix m.rows x46) x65).to)))) from f52g.1 (gandT rfl hb))) rfl))
                intro v102 h103
                intro v104 h105
                intro v106 h107
                intro v108 h109
                intro v110 h111
                intro v112 h113
                intro v114 h115
                intro v116 h117
                obtain rfl := Eq.symm h103
                obtain rfl := Eq.symm h105
                obtain rfl := Eq.symm h109
                obtain rfl := Eq.symm h111
                obtain rfl := Eq.symm h117
                refine wo_nil ?_
                refine wg_cond rfl (fun e118 => ?_) (fun e118 => ?_)
                · replace hd4 := sel_t e118 hd4; clear e118
                  refine wg_region ?_
                  refine wo_v rfl (val_move (v := v9) rfl) ?_
                  refine wo_v rfl (val_move (v := (.int .i64 ((ix (ix m.rows x46) x65).to))) rfl) ?_
                  have g119 := (gd_some hd4).1; replace hd4 := (gd_some hd4).2
                  refine wo_indexO (i := ((ix (ix m.rows x46) x65).to).toNat) rfl sl30 rfl (h70.mono le101) (idx_nonneg rfl g119.1) (okI_lt g119) fun v120 h121 => ?_
                  refine wo_storeO (i := ((ix (ix m.rows x46) x65).to).toNat) (j := 0) ty4 (h70.mono le101) rfl rfl h121 (okI_lt g119) rfl (vrep_bool.2 rfl) fun f122 h123 => ?_
                  refine wo_nil ?_
                  exact ⟨(fun _ => rfl), le101, (by repeat (first | exact off_self | refine off_upd rfl ?_ | refine off_setl rfl ?_ | refine off_mask_sub rfl ?_)), ((up x66 ((ix (ix m.rows x46) x65).to) true), f122), trivial, ⟨[], List.Perm.refl _⟩, (Option.some.inj hd4).symm, h123, (ht71.trans List.length_set.symm), trivial⟩
                · replace hd4 := sel_f e118 hd4; clear e118
                  refine wg_skip ?_
                  exact ⟨(fun _ => rfl), le101, (by repeat (first | exact off_self | refine off_upd rfl ?_ | refine off_setl rfl ?_ | refine off_mask_sub rfl ?_)), (x66, f69), trivial, ⟨[], List.Perm.refl _⟩, (Option.some.inj hd4).symm, (h70.mono le101), ht71, trivial⟩
              ·
                rintro ⟨o77, f80⟩ j124 D125 R78 hD126 le79 ⟨rfl, h81, ht82, _⟩
                obtain rfl := hD126 rfl
                refine wg_region ?_
                refine wo_v rfl (val_move (v := (.int .i64 x65)) rfl) ?_
                have g127 := (gd_some hd3).1; replace hd3 := (gd_some hd3).2
                refine wo_v rfl (val_add rfl rfl g127) ?_
                refine wo_v rfl (val_assign (v := (.int .i64 (x65 + 1))) rfl) ?_
                refine wo_nil ?_
                exact ⟨(fun _ => rfl), le79, (by repeat (first | exact off_self | refine off_upd rfl ?_ | refine off_setl rfl ?_ | refine off_mask_sub rfl ?_)), (F64, x65 + 1, o77, f80), Nat.lt_succ_self _, ⟨rfl, trivial⟩, ⟨[], List.Perm.refl _⟩, hd3, h81, ht82, trivial⟩
            · replace hd3 := sel_f e76 hd3; clear e76
              refine wg_exit ?_
              exact ⟨(fun _ => rfl), le68, (by repeat (first | exact off_self | refine off_upd rfl ?_ | refine off_setl rfl ?_ | refine off_mask_sub rfl ?_)), (x66, f69), trivial, ⟨[], List.Perm.refl _⟩, (Option.some.inj hd3).symm, h70, ht71, trivial⟩
          ·
            rintro ⟨o58, f61⟩ j131 D132 R59 hD133 le60 ⟨rfl, h62, ht63, _⟩
            obtain rfl := hD133 rfl
            refine wg_region ?_
            refine wo_v rfl (val_move (v := (.int .i64 x46)) rfl) ?_
            have g134 := (gd_some hd2).1; replace hd2 := (gd_some hd2).2
            refine wo_v rfl (val_add rfl rfl g134) ?_
            refine wo_v rfl (val_assign (v := (.int .i64 (x46 + 1))) rfl) ?_
            refine wo_nil ?_
            exact ⟨(fun _ => rfl), le60, (by repeat (first | exact off_self | refine off_upd rfl ?_ | refine off_setl rfl ?_ | refine off_mask_sub rfl ?_)), (F45, x46 + 1, o58, f61), Nat.lt_succ_self _, ⟨rfl, trivial⟩, ⟨[], List.Perm.refl _⟩, hd2, h62, ht63, trivial⟩
        · replace hd2 := sel_f e57 hd2; clear e57
          refine wg_exit ?_
          exact ⟨(fun _ => rfl), le49, (by repeat (first | exact off_self | refine off_upd rfl ?_ | refine off_setl rfl ?_ | refine off_mask_sub rfl ?_)), (x47, f50), trivial, ⟨[], List.Perm.refl _⟩, (Option.some.inj hd2).symm, h51, ht52, trivial⟩
      ·
        rintro ⟨o39, f42⟩ j138 D139 R40 hD140 le41 ⟨rfl, h43, ht44, _⟩
        obtain rfl := hD140 rfl
        refine wg_region ?_
        refine wo_v rfl (val_move (v := (.int .i64 x27)) rfl) ?_
        have g141 := (gd_some hd1).1; replace hd1 := (gd_some hd1).2
        refine wo_v rfl (val_add rfl rfl g141) ?_
        refine wo_v rfl (val_assign (v := (.int .i64 (x27 + 1))) rfl) ?_
        refine wo_nil ?_
        exact ⟨(fun _ => rfl), le41, (by repeat (first | exact off_self | refine off_upd rfl ?_ | refine off_setl rfl ?_ | refine off_mask_sub rfl ?_)), (F26, x27 + 1, o39, f42), Nat.lt_succ_self _, ⟨rfl, trivial⟩, ⟨[], List.Perm.refl _⟩, hd1, h43, ht44, trivial⟩
    · replace hd1 := sel_f e38 hd1; clear e38
      refine wg_exit ?_
      exact ⟨(fun _ => rfl), le30, (by repeat (first | exact off_self | refine off_upd rfl ?_ | refine off_setl rfl ?_ | refine off_mask_sub rfl ?_)), (x28, f31), trivial, ⟨[], List.Perm.refl _⟩, (Option.some.inj hd1).symm, h32, ht33, trivial⟩
  ·
    rintro ⟨o20, f23⟩ j145 D146 R21 hD147 le22 ⟨rfl, h24, ht25, _⟩
    obtain rfl := hD147 rfl
    refine wg_seq ?_
    refine wg_region ?_
    refine wo_v rfl (val_move (v := v9) rfl) ?_
    refine wo_v rfl (val_assign (v := v9) rfl) ?_
    refine wo_nil ?_
    refine wg_freeze (i := 0) rfl h24 fun R148 le149 h150 => ?_
    have h151 : VRep (tSl true tBool) R148 v9 o20 := (sl_t h150 ht25)
    refine wg_ret ?_
    obtain rfl := Option.some.inj hd0
    refine body_end (D := []) (J := []) (rs := [.tmp 4]) (vs := [v9]) ((le4.trans le22).trans le149) rfl rfl ⟨rfl, trivial⟩ ?_
    exact ⟨rfl, h151⟩
theorem en48 : Enters Try.prog 48 := enters_of Try.func48 rfl (by kernel_rfl)
theorem c_gauntletref04_Connected {N : Nat} {R : RH} {m : Mach} {v_m : Value} (h_m : VRep (kMach false false) R v_m m) {r : Bool} (hd0 : gauntletref04_Connected N m = some r) : CallP Try.prog 26 #[v_m] R (fun v R' => v = (.bool r)) := by
  refine callP_of_wg (args := [v_m]) Try.func26 rfl rfl fun A => ?_
  rw [gauntletref04_Connected] at hd0
  refine wg_seq ?_
  refine wg_region ?_
  refine wo_boxR (T := (kMach false false)) rfl rfl h_m fun v1 R3 le4 h2 => ?_
  refine wo_v rfl (val_assign (v := (.bool false)) rfl) ?_
  refine wo_nil ?_
  refine wg_seq ?_
  refine wg_region ?_
  refine wo_loadR rfl ty27 rfl h2 fun v5 h6 => ?_
  replace hd0 := bd_some hd0; obtain ⟨y7, c8, hd0⟩ := hd0
  refine wo_callP rfl en48 rfl (c_gauntletref04_Reached h6 c8) fun v9 R11 le12 h10 => ?_
  refine wo_v rfl (val_assign (v := v9) rfl) ?_
  refine wo_nil ?_
  replace hd0 := bd_some hd0; obtain ⟨q14, hd1, hd0⟩ := hd0
  refine wg_meet (γ := Unit) true [4, 7, 8, 9, 10, 13, 14, 15, 16, 17, 2, 11, 12] (fun g => []) (fun g => [] ++ A) (fun g R => q14 = Ex.go g ∧ True) ?_ ?_
  ·
    refine wg_seq ?_
    refine wg_region ?_
    refine wo_v rfl (val_assign (v := (.int .i64 0)) rfl) ?_
    refine wo_nil ?_
    refine wg_block ?_
    refine wg_loopS (γ := Nat × Int) true [7, 8, 9, 10, 13, 14, 15, 16, 17, 2, 11, 12, 4] (fun g => [(4, (.int .i64 g.2))]) (fun g => [] ++ A) (fun g R => gauntletref04_Connected_L1 N y7 g.1 g.2 = some q14 ∧ True) (fun g => g.1) (N, 0) ⟨rfl, trivial⟩ ⟨[], List.Perm.refl _⟩ ⟨hd1, trivial⟩ (fun _ => rfl) ?_
    clear hd1
    rintro ⟨F17, x18⟩ j29 D30 R19 hD31 le20 ⟨hd1, _⟩
    obtain rfl := hD31 rfl
    rcases F17 with _ | F17
    · exact none_elim hd1
    replace hd1 : gauntletref04_Connected_L1 N y7 (F17 + 1) x18 = some q14 := hd1; rw [gauntletref04_Connected_L1] at hd1
    refine wg_seq ?_
    refine wg_seq ?_
    refine wg_region ?_
    refine wo_v rfl (val_move (v := (.int .i64 x18)) rfl) ?_
    refine wo_v rfl (val_move (v := v9) rfl) ?_
    refine wo_v rfl (val_lenR rfl Try.underlying30 rfl (sl_s (h10.mono le20))) ?_
    refine wo_v rfl (val_lss rfl rfl) ?_
    refine wo_nil ?_
    refine wg_cond rfl (fun e21 => ?_) (fun e21 => ?_)
    · replace hd1 := sel_t e21 hd1; clear e21
      refine wg_skip ?_
      refine wg_seq ?_
      refine wg_block ?_
      refine wg_seq ?_
      refine wg_region ?_
      refine wo_v rfl (val_move (v := v9) rfl) ?_
      refine wo_v rfl (val_move (v := (.int .i64 x18)) rfl) ?_
      have g22 := (gd_some hd1).1; replace hd1 := (gd_some hd1).2
      refine wo_indexR (i := x18.toNat) rfl sl30 rfl (sl_s (h10.mono le20)) (idx_nonneg rfl g22.1) (okI_lt g22) fun v23 h24 => ?_
      refine wo_loadR rfl ty4 rfl h24 fun v25 h26 => ?_
      obtain rfl := vrep_bool.1 h26
      refine wo_v rfl (val_not rfl) ?_
      refine wo_nil ?_
      refine wg_cond rfl (fun e27 => ?_) (fun e27 => ?_)
      · replace hd1 := sel_t e27 hd1; clear e27
        refine wg_seq ?_
        refine wg_region ?_
        refine wo_v rfl (val_assign (v := (.bool false)) rfl) ?_
        refine wo_nil ?_
        refine wg_ret ?_
        replace hd0 := on_rt hd1 hd0
        obtain rfl := Option.some.inj hd0
        refine body_end (D := []) (J := []) (rs := [.tmp 2]) (vs := [(.bool false)]) ((le4.trans le12).trans le20) rfl rfl ⟨rfl, trivial⟩ ?_
        exact ⟨rfl, rfl⟩
      · replace hd1 := sel_f e27 hd1; clear e27
        refine wg_skip ?_
        refine wg_region ?_
        refine wo_v rfl (val_move (v := (.int .i64 x18)) rfl) ?_
        have g28 := (gd_some hd1).1; replace hd1 := (gd_some hd1).2
        refine wo_v rfl (val_add rfl rfl g28) ?_
        refine wo_v rfl (val_assign (v := (.int .i64 (x18 + 1))) rfl) ?_
        refine wo_nil ?_
        exact ⟨(fun _ => rfl), (RH.le.refl _), (by repeat (first | exact off_self | refine off_upd rfl ?_ | refine off_setl rfl ?_ | refine off_mask_sub rfl ?_)), (F17, x18 + 1), Nat.lt_succ_self _, ⟨rfl, trivial⟩, ⟨[], List.Perm.refl _⟩, hd1, trivial⟩
    · replace hd1 := sel_f e21 hd1; clear e21
      refine wg_exit ?_
      exact ⟨(fun _ => rfl), le20, (by repeat (first | exact off_self | refine off_upd rfl ?_ | refine off_setl rfl ?_ | refine off_mask_sub rfl ?_)), (), trivial, ⟨[], List.Perm.refl _⟩, (Option.some.inj hd1).symm, trivial⟩
  ·
    rintro o13 j32 D33 R15 hD34 le16 ⟨rfl, _⟩
    obtain rfl := hD34 rfl
    replace hd0 := on_go hd0
    refine wg_seq ?_
    refine wg_region ?_
    refine wo_v rfl (val_assign (v := (.bool true)) rfl) ?_
    refine wo_nil ?_
    refine wg_ret ?_
    obtain rfl := Option.some.inj hd0
    refine body_end (D := []) (J := []) (rs := [.tmp 2]) (vs := [(.bool true)]) ((le4.trans le12).trans le16) rfl rfl ⟨rfl, trivial⟩ ?_
    exact ⟨rfl, rfl⟩
theorem en26 : Enters Try.prog 26 := enters_of Try.func26 rfl (by kernel_rfl)
theorem c_gauntletlaw06_WalksTrim {N : Nat} {R : RH} {x : MDat} {v_x : Value} (h_x : VRep (kMDat false) R v_x x) {y : WDat} {v_y : Value} (h_y : VRep (kWDat false) R v_y y) {r : Bool} (hd0 : gauntletlaw06_WalksTrim N x y = some r) : CallP Try.prog 5 #[v_x, v_y] R (fun v R' => v = (.bool r)) := by
  refine callP_of_wg (args := [v_x, v_y]) Try.func5 rfl rfl fun A => ?_
  rw [gauntletlaw06_WalksTrim] at hd0
  refine wg_seq ?_
  refine wg_region ?_
  refine wo_boxR (T := (kMDat false)) rfl rfl h_x fun v1 R3 le4 h2 => ?_
  refine wo_boxR (T := (kWDat false)) rfl rfl (h_y.mono le4) fun v5 R7 le8 h6 => ?_
  refine wo_v rfl (val_assign (v := (.bool false)) rfl) ?_
  refine wo_nil ?_
  refine wg_seq ?_
  refine wg_region ?_
  refine wo_loadR rfl ty24 rfl (h2.mono le8) fun v9 h10 => ?_
  replace hd0 := bd_some hd0; obtain ⟨y11, c12, hd0⟩ := hd0
  refine wo_callP rfl en11 rfl (c_gauntletlaw04_M_Of h10 c12) fun v13 R15 le16 h14 => ?_
  refine wo_alloc rfl za27 fun b17 => ?_
  obtain ⟨v19, rfl, h20⟩ := cases_Mach h14
  refine wo_store (i := 0) (vs := [(.int .i64 y11.inputs), (.int .i64 y11.outputs), v19]) sz27 rfl rfl rfl rfl rfl rfl (one_cons rfl (one_cons rfl (one_cons (sl_one h20) one_nil))) ?_
  refine wo_nil ?_
  refine wg_seq ?_
  refine wg_region ?_
  refine wo_loadR rfl ty54 rfl (h6.mono le16) fun v21 h22 => ?_
  refine wo_v rfl (val_fieldB fd27_0 rfl) ?_
  refine wo_v rfl (val_loadB (i := 0) ag3 rfl rfl rfl) ?_
  replace hd0 := bd_some hd0; obtain ⟨y23, c24, hd0⟩ := hd0
  refine wo_callP rfl en22 rfl (c_gauntletlaw01_W_Of h22 c24) fun v25 R27 le28 h26 => ?_
  refine wo_v rfl (val_assign (v := v25) rfl) ?_
  refine wo_nil ?_
  refine wg_seq ?_
  refine wg_region ?_
  refine wo_v rfl (val_loadBA (i := 0) ag27 sz27 rfl rfl rfl rfl) ?_
  replace hd0 := bd_some hd0; obtain ⟨y29, c30, hd0⟩ := hd0
  refine wo_callP rfl en23 rfl (c_walks_Trim (⟨_, ⟨_, _, rfl, rfl, ⟨_, _, rfl, rfl, (rep_one rfl (h20.mono le28))⟩⟩, rfl⟩ : VRep (kMach false false) _ _ (⟨y11.inputs, y11.outputs, y11.rows⟩ : Mach)) c30) fun v31 R33 le34 h32 => ?_
  obtain ⟨v35, v37, rfl, h36, h38⟩ := h32
  refine wo_v rfl (val_move (v := (.tuple #[v35, v37, (.int .i64 y29.2.2)])) rfl) ?_
  refine wo_v rfl (val_extract rfl rfl) ?_
  refine wo_v rfl (val_extract rfl rfl) ?_
  refine wo_v rfl (val_extract rfl rfl) ?_
  refine wo_alloc rfl za27 fun b39 => ?_
  obtain ⟨v41, rfl, h42⟩ := cases_Mach h36
  refine wo_store (i := 0) (vs := [(.int .i64 y29.1.inputs), (.int .i64 y29.1.outputs), v41]) sz27 rfl rfl rfl rfl rfl rfl (one_cons rfl (one_cons rfl (one_cons (sl_one h42) one_nil))) ?_
  refine wo_v rfl (val_assign (v := v37) rfl) ?_
  refine wo_v rfl (val_assign (v := (.int .i64 y29.2.2)) rfl) ?_
  refine wo_nil ?_
  refine wg_seq ?_
  refine wg_region ?_
  refine wo_v rfl (val_loadBA (i := 1) ag27 sz27 rfl rfl rfl rfl) ?_
  replace hd0 := bd_some hd0; obtain ⟨y43, c44, hd0⟩ := hd0
  refine wo_callP rfl en13 rfl (c_gauntletref06_Access (⟨_, ⟨_, _, rfl, rfl, ⟨_, _, rfl, rfl, (rep_one rfl (h20.mono (le28.trans le34)))⟩⟩, rfl⟩ : VRep (kMach false false) _ _ (⟨y11.inputs, y11.outputs, y11.rows⟩ : Mach)) c44) fun v45 R47 le48 h46 => ?_
  obtain ⟨v49, v51, rfl, h50, h52⟩ := h46
  refine wo_v rfl (val_move (v := (.tuple #[v49, v51])) rfl) ?_
  refine wo_v rfl (val_extract rfl rfl) ?_
  refine wo_v rfl (val_extract rfl rfl) ?_
  refine wo_v rfl (val_assign (v := v49) rfl) ?_
  refine wo_v rfl (val_assign (v := v51) rfl) ?_
  refine wo_nil ?_
  refine wg_seq ?_
  refine wg_region ?_
  refine wo_v rfl (val_assign (v := (.slice none 0 0)) rfl) ?_
  refine wo_nil ?_
  replace hd0 := bd_some hd0; obtain ⟨o53, hd1, hd0⟩ := hd0
  refine wg_meet (γ := (List Int) × Value × Frag) true [13, 31, 32, 33, 34, 37, 38, 39, 40, 41, 42, 43, 44, 12, 35, 36] (fun g => [(12, g.2.1)]) (fun g => [box b17 [(.int .i64 y11.inputs), (.int .i64 y11.outputs), v19] 27, box b39 [(.int .i64 y29.1.inputs), (.int .i64 y29.1.outputs), v41] 27, g.2.2] ++ A) (fun g R => o53 = g.1 ∧ ORep (tInt .i64) R g.2.2 g.2.1 g.1 ∧ True) ?_ ?_
  ·
    refine wg_seq ?_
    refine wg_region ?_
    refine wo_v rfl (val_assign (v := (.int .i64 0)) rfl) ?_
    refine wo_nil ?_
    refine wg_block ?_
    refine wg_emp ?_
    refine wg_loopS (γ := Nat × (List Int) × Int × Value × Frag) true [31, 32, 33, 34, 37, 38, 39, 40, 41, 42, 43, 44, 12, 35, 36, 13] (fun g => [(12, g.2.2.2.1), (13, (.int .i64 g.2.2.1))]) (fun g => [box b17 [(.int .i64 y11.inputs), (.int .i64 y11.outputs), v19] 27, box b39 [(.int .i64 y29.1.inputs), (.int .i64 y29.1.outputs), v41] 27, g.2.2.2.2] ++ A) (fun g R => gauntletlaw06_WalksTrim_L1 N y43 g.1 g.2.1 g.2.2.1 = some o53 ∧ ORep (tInt .i64) R g.2.2.2.2 g.2.2.2.1 g.2.1 ∧ True) (fun g => g.1) (N, ([] : List Int), 0, (.slice none 0 0), emp) ⟨rfl, rfl, trivial⟩ ⟨[], (pk 2 rfl (pk 1 rfl (pk 0 rfl (List.Perm.refl _))))⟩ ⟨hd1, (orep_emp (T := (tInt .i64))), trivial⟩ (fun _ => rfl) ?_
    clear hd1
    rintro ⟨F61, x62, x63, v66, f67⟩ j100 D101 R64 hD102 le65 ⟨hd1, h68, _⟩
    obtain rfl := hD102 rfl
    rcases F61 with _ | F61
    · exact none_elim hd1
    replace hd1 : gauntletlaw06_WalksTrim_L1 N y43 (F61 + 1) x62 x63 = some o53 := hd1; rw [gauntletlaw06_WalksTrim_L1] at hd1
    refine wg_seq ?_
    refine wg_seq ?_
    refine wg_region ?_
    refine wo_v rfl (val_move (v := (.int .i64 x63)) rfl) ?_
    refine wo_v rfl (val_move (v := v51) rfl) ?_
    refine wo_v rfl (val_lenR rfl Try.underlying30 rfl (sl_s (h52.mono le65))) ?_
    refine wo_v rfl (val_lss rfl rfl) ?_
    refine wo_nil ?_
    refine wg_cond rfl (fun e70 => ?_) (fun e70 => ?_)
    · replace hd1 := sel_t e70 hd1; clear e70
      refine wg_skip ?_
      replace hd1 := bd_some hd1; obtain ⟨o71, hd2, hd1⟩ := hd1
      refine wg_meet (γ := (List Int) × Value × Frag) true [37, 38, 39, 40, 41, 42, 43, 44, 12] (fun g => [(12, g.2.1)]) (fun g => [box b17 [(.int .i64 y11.inputs), (.int .i64 y11.outputs), v19] 27, box b39 [(.int .i64 y29.1.inputs), (.int .i64 y29.1.outputs), v41] 27, g.2.2] ++ A) (fun g R => o71 = g.1 ∧ ORep (tInt .i64) R g.2.2 g.2.1 g.1 ∧ True) ?_ ?_
      ·
        refine wg_block ?_
        refine wg_seq ?_
        refine wg_region ?_
        refine wo_v rfl (val_move (v := v51) rfl) ?_
        refine wo_v rfl (val_move (v := (.int .i64 x63)) rfl) ?_
        have g77 := (gd_some hd2).1; replace hd2 := (gd_some hd2).2
        refine wo_indexR (i := x63.toNat) rfl sl30 rfl (sl_s (h52.mono le65)) (idx_nonneg rfl g77.1) (okI_lt g77) fun v78 h79 => ?_
        refine wo_loadR rfl ty4 rfl h79 fun v80 h81 => ?_
        obtain rfl := vrep_bool.1 h81
        refine wo_nil ?_
        refine wg_cond rfl (fun e82 => ?_) (fun e82 => ?_)
        · replace hd2 := sel_t e82 hd2; clear e82
          refine wg_region ?_
          refine wo_v rfl (val_move (v := v66) rfl) ?_
          refine wo_v rfl (val_move (v := (.int .i64 x63)) rfl) ?_
          refine wo_lit (T := (tInt .i64)) (X := ([x63] : List Int)) (ps := [(0, (.int .i64 x63))]) (css := [[(.int .i64 x63)]]) rfl Try.underlying36 zo3 rfl rfl (lit_reps ⟨rfl, trivial⟩) rfl rfl (by decide) fun v83 f84 cap85 h86 => ?_
          refine wo_freeze (i := 0) rfl h86 fun R88 le89 h90 => ?_
          have h91 : VRep (tSl true (tInt .i64)) R88 v83 ([x63] : List Int) := (sl_t h90 cap85)
          have g92 := (gd_some hd2).1; replace hd2 := (gd_some hd2).2
          refine wo_append (i := 2) (X := x62) (Y := ([x63] : List Int)) rfl Try.underlying36 zo3 rfl rfl rfl (h68.mono le89) (sl_s (Sub.v (B := (tSl false (tInt .i64))) (sub_sl Sub.refl (fun _ => rfl)) h91)) g92.1 g92.2 fun v93 f94 h95 => ?_
          refine wo_v rfl (val_assign (v := v93) rfl) ?_
          refine wo_nil ?_
          exact ⟨(fun _ => rfl), le89, (by repeat (first | exact off_self | refine off_upd rfl ?_ | refine off_setl rfl ?_ | refine off_mask_sub rfl ?_)), ((x62 ++ ([x63] : List Int)), v93, f94), ⟨rfl, trivial⟩, ⟨[], List.Perm.refl _⟩, (Option.some.inj hd2).symm, h95, trivial⟩
        · replace hd2 := sel_f e82 hd2; clear e82
          refine wg_skip ?_
          exact ⟨(fun _ => rfl), (RH.le.refl _), (by repeat (first | exact off_self | refine off_upd rfl ?_ | refine off_setl rfl ?_ | refine off_mask_sub rfl ?_)), (x62, v66, f67), ⟨rfl, trivial⟩, ⟨[], List.Perm.refl _⟩, (Option.some.inj hd2).symm, h68, trivial⟩
      ·
        rintro ⟨o71, v74, f75⟩ j96 D97 R72 hD98 le73 ⟨rfl, h76, _⟩
        obtain rfl := hD98 rfl
        refine wg_region ?_
        refine wo_v rfl (val_move (v := (.int .i64 x63)) rfl) ?_
        have g99 := (gd_some hd1).1; replace hd1 := (gd_some hd1).2
        refine wo_v rfl (val_add rfl rfl g99) ?_
        refine wo_v rfl (val_assign (v := (.int .i64 (x63 + 1))) rfl) ?_
        refine wo_nil ?_
        exact ⟨(fun _ => rfl), le73, (by repeat (first | exact off_self | refine off_upd rfl ?_ | refine off_setl rfl ?_ | refine off_mask_sub rfl ?_)), (F61, o71, x63 + 1, v74, f75), Nat.lt_succ_self _, ⟨rfl, rfl, trivial⟩, ⟨[], List.Perm.refl _⟩, hd1, h76, trivial⟩
    · replace hd1 := sel_f e70 hd1; clear e70
      refine wg_exit ?_
      exact ⟨(fun _ => rfl), le65, (by repeat (first | exact off_self | refine off_upd rfl ?_ | refine off_setl rfl ?_ | refine off_mask_sub rfl ?_)), (x62, v66, f67), ⟨rfl, trivial⟩, ⟨[], List.Perm.refl _⟩, (Option.some.inj hd1).symm, h68, trivial⟩
  ·
    rintro ⟨o53, v56, f57⟩ j103 D104 R54 hD105 le55 ⟨rfl, h58, _⟩
    obtain rfl := hD105 rfl
    refine wg_seq ?_
    refine wg_freeze (i := 2) rfl h58 fun R106 le107 h108 => ?_
    have h109 : VRep (tSl false (tInt .i64)) R106 v56 o53 := (sl_f h108)
    replace hd0 := bd_some hd0; obtain ⟨y110, c111, hd0⟩ := hd0
    replace hd0 := bd_some hd0; obtain ⟨y112, c113, hd0⟩ := hd0
    replace hd0 := bd_some hd0; obtain ⟨y114, c115, hd0⟩ := hd0
    replace hd0 := bd_some hd0; obtain ⟨y116, c117, hd0⟩ := hd0
    replace hd0 := bd_some hd0; obtain ⟨y118, c119, hd0⟩ := hd0
    replace hd0 := bd_some hd0; obtain ⟨y120, c121, hd0⟩ := hd0
    replace hd0 := bd_some hd0; obtain ⟨y122, c123, hd0⟩ := hd0
    replace hd0 := bd_some hd0; obtain ⟨y124, c125, hd0⟩ := hd0
    refine wg_drawn 29 [] [phX v37, phX (.int .i64 y29.2.2), phX v56, phX (.bool y110), phX (.bool y110), phG (true && (y110 == true)) (phX (.agg #[(.int .i64 y29.1.inputs), (.int .i64 y29.1.outputs), v41])), phG (true && (y110 == true)) (phX (.int .i64 y29.2.2)), phG (true && (y110 == true)) (phX (.agg #[(.int .i64 y11.inputs), (.int .i64 y11.outputs), v19])), phG (true && (y110 == true)) (phX v56), phG (true && (y110 == true)) (phR (kMach false false) (y112.getD default)), phG (true && (y110 == true)) (phX (.bool (y114.getD default))), phX (.bool (y110 && (y114.getD default))), phX (.bool (y110 && (y114.getD default))), phG (true && ((y110 && (y114.getD default)) == true)) (phX (.agg #[(.int .i64 y29.1.inputs), (.int .i64 y29.1.outputs), v41])), phG (true && ((y110 && (y114.getD default)) == true)) (phX (.bool (y116.getD default))), phX (.bool ((y110 && (y114.getD default)) && (y116.getD default))), phX (.bool ((y110 && (y114.getD default)) && (y116.getD default))), phG (true && (((y110 && (y114.getD default)) && (y116.getD default)) == true)) (phX (.agg #[(.int .i64 y29.1.inputs), (.int .i64 y29.1.outputs), v41])), phG (true && (((y110 && (y114.getD default)) && (y116.getD default)) == true)) (phX v25), phG (true && (((y110 && (y114.getD default)) && (y116.getD default)) == true)) (phR (tSl false (tInt .i64)) (y118.getD default)), phG (true && (((y110 && (y114.getD default)) && (y116.getD default)) == true)) (phX (.agg #[(.int .i64 y11.inputs), (.int .i64 y11.outputs), v19])), phG (true && (((y110 && (y114.getD default)) && (y116.getD default)) == true)) (phX v25), phG (true && (((y110 && (y114.getD default)) && (y116.getD default)) == true)) (phR (tSl false (tInt .i64)) (y120.getD default)), phG (true && (((y110 && (y114.getD default)) && (y116.getD default)) == true)) (phX (.bool (y122.getD default))), phX (.bool (((y110 && (y114.getD default)) && (y116.getD default)) && (y122.getD default))), phX (.bool (((y110 && (y114.getD default)) && (y116.getD default)) && (y122.getD default))), phG (true && ((((y110 && (y114.getD default)) && (y116.getD default)) && (y122.getD default)) == true)) (phX (.bool (y124.getD default))), phX (.bool ((((y110 && (y114.getD default)) && (y116.getD default)) && (y122.getD default)) && (y124.getD default))), phX (.bool ((((y110 && (y114.getD default)) && (y116.getD default)) && (y122.getD default)) && (y124.getD default)))] mixed (by kernel_rfl) (monoOk_of ⟨mono_x, mono_x, mono_x, mono_x, mono_x, (mono_g mono_x), (mono_g mono_x), (mono_g mono_x), (mono_g mono_x), (mono_g mono_r), (mono_g mono_x), mono_x, mono_x, (mono_g mono_x), (mono_g mono_x), mono_x, mono_x, (mono_g mono_x), (mono_g mono_x), (mono_g mono_r), (mono_g mono_x), (mono_g mono_x), (mono_g mono_r), (mono_g mono_x), mono_x, mono_x, (mono_g mono_x), mono_x, mono_x, trivial⟩) ⟨?_, ?_, ?_, ?_, ?_, ?_, ?_, ?_, ?_, ?_, ?_, ?_, ?_, ?_, ?_, ?_, ?_, ?_, ?_, ?_, ?_, ?_, ?_, ?_, ?_, ?_, ?_, ?_, ?_, trivial⟩ fun R126 le127 => ?_
    · intro l R0q hle ha hd
      have a8 : l 8 = v37 := ha 8 rfl
      exact gstep_plain rfl rfl rfl (ph_val (val_move a8))
    · intro l R1q hle ha hd
      have a9 : l 9 = (.int .i64 y29.2.2) := ha 9 rfl
      exact gstep_plain rfl rfl rfl (ph_val (val_move a9))
    · intro l R2q hle ha hd
      have a12 : l 12 = v56 := ha 12 rfl
      exact gstep_plain rfl rfl rfl (ph_val (val_move a12))
    · intro l R3q hle ha hd
      obtain ⟨d0, d1, d2, _⟩ := hd
      have f45 : l 45 = v37 := d0 rfl
      have f46 : l 46 = (.int .i64 y29.2.2) := d1 rfl
      have f47 : l 47 = v56 := d2 rfl
      exact gstep_plain rfl rfl rfl (ph_callP (vs := [v37, (.int .i64 y29.2.2), v56, (.int .i64 0)]) en14 (by simp only [List.map, ev, f45, f46, f47] <;> rfl) (c_gauntletlaw06_list ((h38.mono ((le48.trans le55).trans le107)).mono hle) (h109.mono hle) c111) (fun _ _ h => h))
    · intro l R4q hle ha hd
      obtain ⟨d0, d1, _⟩ := hd
      have f48 : l 48 = (.bool y110) := d0 rfl
      exact gstep_plain rfl rfl rfl (ph_val (val_move f48))
    · intro l R5q hle ha hd
      obtain ⟨d0, _⟩ := hd
      have a7 : l 7 = (.pointer (some ⟨b39, 0, none⟩)) := ha 7 rfl
      exact gstep_guard (Gj := true) (Bj := y110) rfl rfl rfl (gtrue (d0 rfl)) rfl (fun hG hB => ph_val (val_loadBA (i := 1) ag27 sz27 a7 rfl rfl rfl))
    · intro l R6q hle ha hd
      obtain ⟨d0, _⟩ := hd
      have a9 : l 9 = (.int .i64 y29.2.2) := ha 9 rfl
      exact gstep_guard (Gj := true) (Bj := y110) rfl rfl rfl (gtrue (d0 rfl)) rfl (fun hG hB => ph_val (val_move a9))
    · intro l R7q hle ha hd
      obtain ⟨d0, _⟩ := hd
      have a5 : l 5 = (.pointer (some ⟨b17, 0, none⟩)) := ha 5 rfl
      exact gstep_guard (Gj := true) (Bj := y110) rfl rfl rfl (gtrue (d0 rfl)) rfl (fun hG hB => ph_val (val_loadBA (i := 0) ag27 sz27 a5 rfl rfl rfl))
    · intro l R8q hle ha hd
      obtain ⟨d0, _⟩ := hd
      have a12 : l 12 = v56 := ha 12 rfl
      exact gstep_guard (Gj := true) (Bj := y110) rfl rfl rfl (gtrue (d0 rfl)) rfl (fun hG hB => ph_val (val_move a12))
    · intro l R9q hle ha hd
      obtain ⟨d0, d1, d2, d3, _⟩ := hd
      have f52g : phG (true && (y110 == true)) (phX (.agg #[(.int .i64 y11.inputs), (.int .i64 y11.outputs), v19])) (l 52) R9q := d0 rfl
      have f53g : phG (true && (y110 == true)) (phX v56) (l 53) R9q := d1 rfl
      exact gstep_guard (Gj := true) (Bj := y110) rfl rfl rfl (gtrue (d2 rfl)) rfl (fun hG hB => ph_callP (vs := [(.agg #[(.int .i64 y11.inputs), (.int .i64 y11.outputs), v19]), v56]) en25 (by simp only [List.map, ev, (show l 52 = (.agg #[(.int .i64 y11.inputs), (.int .i64 y11.outputs), v19]) from f52g.1 (gandT rfl hB)), (show l 53 = v56 from f53g.1 (gandT rfl hB))] <;> rfl) ((by have z := (gop_def c113 (gandT hG hB)); exact c_gauntletref06_Part (⟨_, ⟨_, _, rfl, rfl, ⟨_, _, rfl, rfl, (rep_one rfl ((h20.mono ((((le28.trans le34).trans le48).trans le55).trans le107)).mono hle))⟩⟩, rfl⟩ : VRep (kMach false false) _ _ (⟨y11.inputs, y11.outputs, y11.rows⟩ : Mach)) (h109.mono hle) z)) (fun _ _ h => h))
    · intro l R10q hle ha hd
      obtain ⟨d0, d1, d2, d3, d4, _⟩ := hd
      have f50g : phG (true && (y110 == true)) (phX (.agg #[(.int .i64 y29.1.inputs), (.int .i64 y29.1.outputs), v41])) (l 50) R10q := d0 rfl
      have f51g : phG (true && (y110 == true)) (phX (.int .i64 y29.2.2)) (l 51) R10q := d1 rfl
      have f54g : phG (true && (y110 == true)) (phR (kMach false false) (y112.getD default)) (l 54) R10q := d2 rfl
      exact gstep_guard (Gj := true) (Bj := y110) rfl rfl rfl (gtrue (d4 rfl)) rfl (fun hG hB => ph_callP (vs := [(.agg #[(.int .i64 y29.1.inputs), (.int .i64 y29.1.outputs), v41]), (.int .i64 y29.2.2), (l 54)]) en24 (by simp only [List.map, ev, (show l 50 = (.agg #[(.int .i64 y29.1.inputs), (.int .i64 y29.1.outputs), v41]) from f50g.1 (gandT rfl hB)), (show l 51 = (.int .i64 y29.2.2) from f51g.1 (gandT rfl hB))] <;> rfl) ((by have z := (gop_def c115 (gandT hG hB)); exact c_gauntletlaw06_machine (⟨_, ⟨_, _, rfl, rfl, ⟨_, _, rfl, rfl, (rep_one rfl ((h42.mono ((le48.trans le55).trans le107)).mono hle))⟩⟩, rfl⟩ : VRep (kMach true true) _ _ (⟨y29.1.inputs, y29.1.outputs, y29.1.rows⟩ : Mach)) (f54g.1 (gandT rfl hB)) z)) (fun _ _ h => h))
    · intro l R11q hle ha hd
      obtain ⟨d0, d1, _⟩ := hd
      have f49 : l 49 = (.bool y110) := d0 rfl
      have f55g : phG (true && (y110 == true)) (phX (.bool (y114.getD default))) (l 55) R11q := d1 rfl
      exact gstep_plain rfl rfl rfl (ph_val (val_and f49 (fun hb => (show l 55 = (.bool (y114.getD default)) from f55g.1 (gandT rfl hb))) rfl))
    · intro l R12q hle ha hd
      obtain ⟨d0, d1, _⟩ := hd
      have f56 : l 56 = (.bool (y110 && (y114.getD default))) := d0 rfl
      exact gstep_plain rfl rfl rfl (ph_val (val_move f56))
    · intro l R13q hle ha hd
      obtain ⟨d0, _⟩ := hd
      have a7 : l 7 = (.pointer (some ⟨b39, 0, none⟩)) := ha 7 rfl
      exact gstep_guard (Gj := true) (Bj := y110 && (y114.getD default)) rfl rfl rfl (gtrue (d0 rfl)) rfl (fun hG hB => ph_val (val_loadBA (i := 1) ag27 sz27 a7 rfl rfl rfl))
    · intro l R14q hle ha hd
      obtain ⟨d0, d1, d2, _⟩ := hd
      have f58g : phG (true && ((y110 && (y114.getD default)) == true)) (phX (.agg #[(.int .i64 y29.1.inputs), (.int .i64 y29.1.outputs), v41])) (l 58) R14q := d0 rfl
      exact gstep_guard (Gj := true) (Bj := y110 && (y114.getD default)) rfl rfl rfl (gtrue (d1 rfl)) rfl (fun hG hB => ph_callP (vs := [(.agg #[(.int .i64 y29.1.inputs), (.int .i64 y29.1.outputs), v41])]) en26 (by simp only [List.map, ev, (show l 58 = (.agg #[(.int .i64 y29.1.inputs), (.int .i64 y29.1.outputs), v41]) from f58g.1 (gandT rfl hB))] <;> rfl) ((by have z := (gop_def c117 (gandT hG hB)); exact c_gauntletref04_Connected (⟨_, ⟨_, _, rfl, rfl, ⟨_, _, rfl, rfl, (rep_one rfl (Sub.v (B := (tSl false (tSl false kEdge))) (sub_sl (sub_sl Sub.refl (fun _ => rfl)) (fun _ => rfl)) ((h42.mono ((le48.trans le55).trans le107)).mono hle)))⟩⟩, rfl⟩ : VRep (kMach false false) _ _ (⟨y29.1.inputs, y29.1.outputs, y29.1.rows⟩ : Mach)) z)) (fun _ _ h => h))
    · intro l R15q hle ha hd
      obtain ⟨d0, d1, _⟩ := hd
      have f57 : l 57 = (.bool (y110 && (y114.getD default))) := d0 rfl
      have f59g : phG (true && ((y110 && (y114.getD default)) == true)) (phX (.bool (y116.getD default))) (l 59) R15q := d1 rfl
      exact gstep_plain rfl rfl rfl (ph_val (val_and f57 (fun hb => (show l 59 = (.bool (y116.getD default)) from f59g.1 (gandT rfl hb))) rfl))
    · intro l R16q hle ha hd
      obtain ⟨d0, d1, _⟩ := hd
      have f60 : l 60 = (.bool ((y110 && (y114.getD default)) && (y116.getD default))) := d0 rfl
      exact gstep_plain rfl rfl rfl (ph_val (val_move f60))
    · intro l R17q hle ha hd
      obtain ⟨d0, _⟩ := hd
      have a7 : l 7 = (.pointer (some ⟨b39, 0, none⟩)) := ha 7 rfl
      exact gstep_guard (Gj := true) (Bj := (y110 && (y114.getD default)) && (y116.getD default)) rfl rfl rfl (gtrue (d0 rfl)) rfl (fun hG hB => ph_val (val_loadBA (i := 1) ag27 sz27 a7 rfl rfl rfl))
    · intro l R18q hle ha hd
      obtain ⟨d0, _⟩ := hd
      have a6 : l 6 = v25 := ha 6 rfl
      exact gstep_guard (Gj := true) (Bj := (y110 && (y114.getD default)) && (y116.getD default)) rfl rfl rfl (gtrue (d0 rfl)) rfl (fun hG hB => ph_val (val_move a6))
    · intro l R19q hle ha hd
      obtain ⟨d0, d1, d2, d3, _⟩ := hd
      have f62g : phG (true && (((y110 && (y114.getD default)) && (y116.getD default)) == true)) (phX (.agg #[(.int .i64 y29.1.inputs), (.int .i64 y29.1.outputs), v41])) (l 62) R19q := d0 rfl
      have f63g : phG (true && (((y110 && (y114.getD default)) && (y116.getD default)) == true)) (phX v25) (l 63) R19q := d1 rfl
      exact gstep_guard (Gj := true) (Bj := (y110 && (y114.getD default)) && (y116.getD default)) rfl rfl rfl (gtrue (d2 rfl)) rfl (fun hG hB => ph_callP (vs := [(.agg #[(.int .i64 y29.1.inputs), (.int .i64 y29.1.outputs), v41]), (.int .i64 0), v25]) en27 (by simp only [List.map, ev, (show l 62 = (.agg #[(.int .i64 y29.1.inputs), (.int .i64 y29.1.outputs), v41]) from f62g.1 (gandT rfl hB)), (show l 63 = v25 from f63g.1 (gandT rfl hB))] <;> rfl) ((by have z := (gop_def c119 (gandT hG hB)); exact c_gauntletref04_Run (⟨_, ⟨_, _, rfl, rfl, ⟨_, _, rfl, rfl, (rep_one rfl (Sub.v (B := (tSl false (tSl false kEdge))) (sub_sl (sub_sl Sub.refl (fun _ => rfl)) (fun _ => rfl)) ((h42.mono ((le48.trans le55).trans le107)).mono hle)))⟩⟩, rfl⟩ : VRep (kMach false false) _ _ (⟨y29.1.inputs, y29.1.outputs, y29.1.rows⟩ : Mach)) ((h26.mono (((le34.trans le48).trans le55).trans le107)).mono hle) z)) (fun _ _ h => h))
    · intro l R20q hle ha hd
      obtain ⟨d0, _⟩ := hd
      have a5 : l 5 = (.pointer (some ⟨b17, 0, none⟩)) := ha 5 rfl
      exact gstep_guard (Gj := true) (Bj := (y110 && (y114.getD default)) && (y116.getD default)) rfl rfl rfl (gtrue (d0 rfl)) rfl (fun hG hB => ph_val (val_loadBA (i := 0) ag27 sz27 a5 rfl rfl rfl))
    · intro l R21q hle ha hd
      obtain ⟨d0, _⟩ := hd
      have a6 : l 6 = v25 := ha 6 rfl
      exact gstep_guard (Gj := true) (Bj := (y110 && (y114.getD default)) && (y116.getD default)) rfl rfl rfl (gtrue (d0 rfl)) rfl (fun hG hB => ph_val (val_move a6))
    · intro l R22q hle ha hd
      obtain ⟨d0, d1, d2, d3, _⟩ := hd
      have f65g : phG (true && (((y110 && (y114.getD default)) && (y116.getD default)) == true)) (phX (.agg #[(.int .i64 y11.inputs), (.int .i64 y11.outputs), v19])) (l 65) R22q := d0 rfl
      have f66g : phG (true && (((y110 && (y114.getD default)) && (y116.getD default)) == true)) (phX v25) (l 66) R22q := d1 rfl
      exact gstep_guard (Gj := true) (Bj := (y110 && (y114.getD default)) && (y116.getD default)) rfl rfl rfl (gtrue (d3 rfl)) rfl (fun hG hB => ph_callP (vs := [(.agg #[(.int .i64 y11.inputs), (.int .i64 y11.outputs), v19]), (.int .i64 0), v25]) en27 (by simp only [List.map, ev, (show l 65 = (.agg #[(.int .i64 y11.inputs), (.int .i64 y11.outputs), v19]) from f65g.1 (gandT rfl hB)), (show l 66 = v25 from f66g.1 (gandT rfl hB))] <;> rfl) ((by have z := (gop_def c121 (gandT hG hB)); exact c_gauntletref04_Run (⟨_, ⟨_, _, rfl, rfl, ⟨_, _, rfl, rfl, (rep_one rfl ((h20.mono ((((le28.trans le34).trans le48).trans le55).trans le107)).mono hle))⟩⟩, rfl⟩ : VRep (kMach false false) _ _ (⟨y11.inputs, y11.outputs, y11.rows⟩ : Mach)) ((h26.mono (((le34.trans le48).trans le55).trans le107)).mono hle) z)) (fun _ _ h => h))
    · intro l R23q hle ha hd
      obtain ⟨d0, d1, d2, d3, _⟩ := hd
      have f64g : phG (true && (((y110 && (y114.getD default)) && (y116.getD default)) == true)) (phR (tSl false (tInt .i64)) (y118.getD default)) (l 64) R23q := d0 rfl
      have f67g : phG (true && (((y110 && (y114.getD default)) && (y116.getD default)) == true)) (phR (tSl false (tInt .i64)) (y120.getD default)) (l 67) R23q := d1 rfl
      exact gstep_guard (Gj := true) (Bj := (y110 && (y114.getD default)) && (y116.getD default)) rfl rfl rfl (gtrue (d3 rfl)) rfl (fun hG hB => ph_callP (vs := [(l 64), (l 67)]) en16 rfl ((by have z := (gop_def c123 (gandT hG hB)); exact c_gauntletref01_Same (f64g.1 (gandT rfl hB)) (f67g.1 (gandT rfl hB)) z)) (fun _ _ h => h))
    · intro l R24q hle ha hd
      obtain ⟨d0, d1, _⟩ := hd
      have f61 : l 61 = (.bool ((y110 && (y114.getD default)) && (y116.getD default))) := d0 rfl
      have f68g : phG (true && (((y110 && (y114.getD default)) && (y116.getD default)) == true)) (phX (.bool (y122.getD default))) (l 68) R24q := d1 rfl
      exact gstep_plain rfl rfl rfl (ph_val (val_and f61 (fun hb => (show l 68 = (.bool (y122.getD default)) from f68g.1 (gandT rfl hb))) rfl))
    · intro l R25q hle ha hd
      obtain ⟨d0, d1, _⟩ := hd
      have f69 : l 69 = (.bool (((y110 && (y114.getD default)) && (y116.getD default)) && (y122.getD default))) := d0 rfl
      exact gstep_plain rfl rfl rfl (ph_val (val_move f69))
    · intro l R26q hle ha hd
      obtain ⟨d0, d1, _⟩ := hd
      exact gstep_guard (Gj := true) (Bj := ((y110 && (y114.getD default)) && (y116.getD default)) && (y122.getD default)) rfl rfl rfl (gtrue (d0 rfl)) rfl (fun hG hB => ph_callP (vs := []) en18 rfl ((by have z := (gop_def c125 (gandT hG hB)); exact c_gauntletlaw06_lives  z)) (fun _ _ h => h))
    · intro l R27q hle ha hd
      obtain ⟨d0, d1, _⟩ := hd
      have f70 : l 70 = (.bool (((y110 && (y114.getD default)) && (y116.getD default)) && (y122.getD default))) := d0 rfl
      have f71g : phG (true && ((((y110 && (y114.getD default)) && (y116.getD default)) && (y122.getD default)) == true)) (phX (.bool (y124.getD default))) (l 71) R27q := d1 rfl
      exact gstep_plain rfl rfl rfl (ph_val (val_and f70 (fun hb => (show l 71 = (.bool (y124.getD default)) from f71g.1 (gandT rfl hb))) rfl))
    · intro l R28q hle ha hd
      obtain ⟨d0, d1, d2, d3, d4, d5, d6, d7, d8, d9, d10, d11, d12, d13, d14, d15, d16, d17, d18, d19, d20, d21, d22, d23, d24, d25, d26, d27, d28, d29, _⟩ := hd
      have f72 : l 72 = (.bool ((((y110 && (y114.getD default)) && (y116.getD default)) && (y122.getD default)) && (y124.getD default))) := d0 rfl
      exact gstep_plain rfl rfl rfl (ph_val (val_assign f72))
    intro v128 h129
    intro v130 h131
    intro v132 h133
    intro v134 h135
    intro v136 h137
    intro v138 h139
    intro v140 h141
    intro v142 h143
    intro v144 h145
    intro v146 h147
    intro v148 h149
    intro v150 h151
    intro v152 h153
    intro v154 h155
    intro v156 h157
    intro v158 h159
    intro v160 h161
    intro v162 h163
    intro v164 h165
    intro v166 h167
    intro v168 h169
    intro v170 h171
    intro v172 h173
    intro v174 h175
    intro v176 h177
    intro v178 h179
    intro v180 h181
    intro v182 h183
    intro v184 h185
    obtain rfl := Eq.symm h129
    obtain rfl := Eq.symm h131
    obtain rfl := Eq.symm h133
    obtain rfl := Eq.symm h135
    obtain rfl := Eq.symm h137
    obtain rfl := Eq.symm h151
    obtain rfl := Eq.symm h153
    obtain rfl := Eq.symm h159
    obtain rfl := Eq.symm h161
    obtain rfl := Eq.symm h177
    obtain rfl := Eq.symm h179
    obtain rfl := Eq.symm h183
    obtain rfl := Eq.symm h185
    refine wo_nil ?_
    refine wg_ret ?_
    obtain rfl := Option.some.inj hd0
    refine body_end (D := []) (J := [box b17 [(.int .i64 y11.inputs), (.int .i64 y11.outputs), v19] 27, box b39 [(.int .i64 y29.1.inputs), (.int .i64 y29.1.outputs), v41] 27]) (rs := [.tmp 4]) (vs := [(.bool ((((y110 && (y114.getD default)) && (y116.getD default)) && (y122.getD default)) && (y124.getD default)))]) ((((((((le4.trans le8).trans le16).trans le28).trans le34).trans le48).trans le55).trans le107).trans le127) rfl rfl ⟨rfl, trivial⟩ ?_
    exact ⟨rfl, rfl⟩
end GV
end Go.Proofs.Ytncblcdhmcmkmaa
