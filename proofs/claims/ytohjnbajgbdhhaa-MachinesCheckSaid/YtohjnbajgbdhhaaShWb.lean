/- The walks of the functions; printed. -/
import Derived.Test.YtohjnbajgbdhhaaShWa
import Derived.Test.YtohjnbajgbdhhaaRows
namespace Go.Proofs.Ytohjnbajgbdhhaa
namespace GV
open Go.IntWalk
set_option linter.unusedVariables false
set_option linter.unusedSimpArgs false
set_option maxRecDepth 100000
set_option maxHeartbeats 2000000
theorem c_slices_Index_bool {N : Nat} {R : RH} {s : (List Bool)} {v_s : Value} (h_s : VRep (tSl false tBool) R v_s s) {v_ : Bool} {r : Int} (hd0 : slices_Index_bool N s v_ = some r) : CallP Try.prog 57 #[v_s, (.bool v_)] R (fun v R' => v = (.int .i64 r)) := by
  refine callP_of_wg (args := [v_s, (.bool v_)]) Try.func57 rfl rfl fun A => ?_
  rw [slices_Index_bool] at hd0
  refine wg_seq ?_
  refine wg_region ?_
  refine wo_v rfl (val_assign (v := (.int .i64 0)) rfl) ?_
  refine wo_nil ?_
  replace hd0 := bd_some hd0; obtain ⟨q2, hd1, hd0⟩ := hd0
  refine wg_meet (γ := Unit) true [6, 7, 8, 9, 10, 5, 11, 12, 13, 14, 15, 16, 17, 4, 18] (fun g => []) (fun g => [] ++ A) (fun g R => q2 = Ex.go g ∧ True) ?_ ?_
  ·
    refine wg_seq ?_
    refine wg_region ?_
    refine wo_v rfl (val_move (v := v_s) rfl) ?_
    refine wo_v rfl (val_lenR rfl Try.underlying77 rfl (sl_s h_s)) ?_
    refine wo_v rfl (val_move (v := (.int .i64 0)) rfl) ?_
    refine wo_nil ?_
    refine wg_block ?_
    refine wg_loopS (γ := Nat × Int) true [9, 10, 5, 11, 12, 13, 14, 15, 16, 17, 4, 18, 8] (fun g => [(8, (.int .i64 g.2))]) (fun g => [] ++ A) (fun g R => slices_Index_bool_L1 N s v_ g.1 g.2 = some q2 ∧ True) (fun g => g.1) (N, 0) ⟨rfl, trivial⟩ ⟨[], List.Perm.refl _⟩ ⟨hd1, trivial⟩ (fun _ => rfl) ?_
    clear hd1
    rintro ⟨F5, x6⟩ j17 D18 R7 hD19 le8 ⟨hd1, _⟩
    obtain rfl := hD19 rfl
    rcases F5 with _ | F5
    · exact none_elim hd1
    replace hd1 : slices_Index_bool_L1 N s v_ (F5 + 1) x6 = some q2 := hd1; rw [slices_Index_bool_L1] at hd1
    refine wg_seq ?_
    refine wg_region ?_
    refine wo_v rfl (val_lss rfl rfl) ?_
    refine wo_nil ?_
    refine wg_seq ?_
    refine wg_cond rfl (fun e9 => ?_) (fun e9 => ?_)
    · replace hd1 := sel_t e9 hd1; clear e9
      refine wg_skip ?_
      refine wg_seq ?_
      refine wg_block ?_
      refine wg_seq ?_
      refine wg_region ?_
      refine wo_v rfl (val_move (v := (.int .i64 x6)) rfl) ?_
      refine wo_v rfl (val_assign (v := (.int .i64 x6)) rfl) ?_
      refine wo_nil ?_
      refine wg_seq ?_
      refine wg_region ?_
      refine wo_v rfl (val_move (v := (.bool v_)) rfl) ?_
      refine wo_v rfl (val_move (v := v_s) rfl) ?_
      refine wo_v rfl (val_move (v := (.int .i64 x6)) rfl) ?_
      have g10 := (gd_some hd1).1; replace hd1 := (gd_some hd1).2
      refine wo_indexR (i := x6.toNat) rfl sl77 rfl (sl_s (h_s.mono le8)) (idx_nonneg rfl g10.1) (okI_lt g10) fun v11 h12 => ?_
      refine wo_loadR rfl ty4 rfl h12 fun v13 h14 => ?_
      obtain rfl := vrep_bool.1 h14
      refine wo_v rfl (val_eqlB Try.underlying4 rfl rfl) ?_
      refine wo_nil ?_
      refine wg_cond rfl (fun e15 => ?_) (fun e15 => ?_)
      · replace hd1 := sel_t e15 hd1; clear e15
        refine wg_seq ?_
        refine wg_region ?_
        refine wo_v rfl (val_move (v := (.int .i64 x6)) rfl) ?_
        refine wo_v rfl (val_assign (v := (.int .i64 x6)) rfl) ?_
        refine wo_nil ?_
        refine wg_ret ?_
        replace hd0 := on_rt hd1 hd0
        obtain rfl := Option.some.inj hd0
        refine body_end (D := []) (J := []) (rs := [.tmp 4]) (vs := [(.int .i64 x6)]) le8 rfl rfl ⟨rfl, trivial⟩ ?_
        exact ⟨rfl, rfl⟩
      · replace hd1 := sel_f e15 hd1; clear e15
        refine wg_skip ?_
        refine wg_region ?_
        have g16 := (gd_some hd1).1; replace hd1 := (gd_some hd1).2
        refine wo_v rfl (val_add rfl rfl g16) ?_
        refine wo_v rfl (val_move (v := (.int .i64 (x6 + 1))) rfl) ?_
        refine wo_nil ?_
        exact ⟨(fun _ => rfl), (RH.le.refl _), (by repeat (first | exact off_self | refine off_upd rfl ?_ | refine off_setl rfl ?_ | refine off_mask_sub rfl ?_)), (F5, x6 + 1), Nat.lt_succ_self _, ⟨rfl, trivial⟩, ⟨[], List.Perm.refl _⟩, hd1, trivial⟩
    · replace hd1 := sel_f e9 hd1; clear e9
      refine wg_exit ?_
      exact ⟨(fun _ => rfl), le8, (by repeat (first | exact off_self | refine off_upd rfl ?_ | refine off_setl rfl ?_ | refine off_mask_sub rfl ?_)), (), trivial, ⟨[], List.Perm.refl _⟩, (Option.some.inj hd1).symm, trivial⟩
  ·
    rintro o1 j20 D21 R3 hD22 le4 ⟨rfl, _⟩
    obtain rfl := hD22 rfl
    replace hd0 := on_go hd0
    refine wg_seq ?_
    refine wg_region ?_
    refine wo_v rfl (val_assign (v := (.int .i64 (-1))) rfl) ?_
    refine wo_nil ?_
    refine wg_ret ?_
    obtain rfl := Option.some.inj hd0
    refine body_end (D := []) (J := []) (rs := [.tmp 4]) (vs := [(.int .i64 (-1))]) le4 rfl rfl ⟨rfl, trivial⟩ ?_
    exact ⟨rfl, rfl⟩
theorem en57 : Enters Try.prog 57 := enters_of Try.func57 rfl (by kernel_rfl)
theorem c_slices_Contains_bool {N : Nat} {R : RH} {s : (List Bool)} {v_s : Value} (h_s : VRep (tSl false tBool) R v_s s) {v_ : Bool} {r : Bool} (hd0 : slices_Contains_bool N s v_ = some r) : CallP Try.prog 40 #[v_s, (.bool v_)] R (fun v R' => v = (.bool r)) := by
  refine callP_of_wg (args := [v_s, (.bool v_)]) Try.func40 rfl rfl fun A => ?_
  rw [slices_Contains_bool] at hd0
  refine wg_seq ?_
  refine wg_region ?_
  refine wo_v rfl (val_assign (v := (.bool false)) rfl) ?_
  refine wo_nil ?_
  refine wg_seq ?_
  refine wg_region ?_
  refine wo_v rfl (val_move (v := v_s) rfl) ?_
  refine wo_v rfl (val_move (v := (.bool v_)) rfl) ?_
  replace hd0 := bd_some hd0; obtain ⟨y1, c2, hd0⟩ := hd0
  refine wo_callP rfl en57 rfl (c_slices_Index_bool h_s c2) fun v3 R5 le6 h4 => ?_
  obtain rfl := h4
  refine wo_v rfl (val_geq rfl rfl) ?_
  refine wo_v rfl (val_assign (v := (.bool (decide (0 ≤ y1)))) rfl) ?_
  refine wo_nil ?_
  refine wg_ret ?_
  obtain rfl := Option.some.inj hd0
  refine body_end (D := []) (J := []) (rs := [.tmp 4]) (vs := [(.bool (decide (0 ≤ y1)))]) le6 rfl rfl ⟨rfl, trivial⟩ ?_
  exact ⟨rfl, rfl⟩
theorem en40 : Enters Try.prog 40 := enters_of Try.func40 rfl (by kernel_rfl)
theorem c_machines_Connected {N : Nat} {R : RH} {m : Mach} {v_m : Value} (h_m : VRep (kMach false false) R v_m m) {r : Bool × Int} (hd0 : machines_Connected N m = some r) : CallP Try.prog 12 #[v_m] R (fun v R' => v = .tuple #[(.bool r.1), (.int .i64 r.2)]) := by
  refine callP_of_wg (args := [v_m]) Try.func12 rfl rfl fun A => ?_
  rw [machines_Connected] at hd0
  refine wg_seq ?_
  refine wg_region ?_
  refine wo_boxR (T := (kMach false false)) rfl rfl h_m fun v1 R3 le4 h2 => ?_
  refine wo_v rfl (val_assign (v := (.bool false)) rfl) ?_
  refine wo_v rfl (val_assign (v := (.int .i64 0)) rfl) ?_
  refine wo_nil ?_
  refine wg_seq ?_
  refine wg_seq ?_
  refine wg_region ?_
  refine wo_loadR rfl ty27 rfl h2 fun v5 h6 => ?_
  replace hd0 := bd_some hd0; obtain ⟨y7, c8, hd0⟩ := hd0
  refine wo_callP rfl en31 rfl (c_machines_Check h6 c8) fun v9 R11 le12 h10 => ?_
  obtain rfl := h10
  refine wo_v rfl (val_assign (v := (.int .i64 y7)) rfl) ?_
  refine wo_nil ?_
  refine wg_seq ?_
  refine wg_region ?_
  refine wo_v rfl (val_move (v := (.int .i64 y7)) rfl) ?_
  refine wo_v rfl (val_neq rfl rfl) ?_
  refine wo_nil ?_
  refine wg_cond rfl (fun e13 => ?_) (fun e13 => ?_)
  · replace hd0 := sel_t e13 hd0; clear e13
    refine wg_seq ?_
    refine wg_region ?_
    refine wo_v rfl (val_move (v := (.int .i64 y7)) rfl) ?_
    refine wo_v rfl (val_assign (v := (.bool false)) rfl) ?_
    refine wo_v rfl (val_assign (v := (.int .i64 y7)) rfl) ?_
    refine wo_nil ?_
    refine wg_ret ?_
    obtain rfl := Option.some.inj hd0
    refine body_end (D := []) (J := []) (rs := [.tmp 2, .tmp 3]) (vs := [(.bool false), (.int .i64 y7)]) (le4.trans le12) rfl rfl ⟨rfl, rfl, trivial⟩ ?_
    exact ⟨rfl, rfl⟩
  · replace hd0 := sel_f e13 hd0; clear e13
    refine wg_skip ?_
    refine wg_seq ?_
    refine wg_region ?_
    refine wo_fieldR rfl fd27_2 pt_Mach2 rfl (h2.mono le12) fun v14 h15 => ?_
    refine wo_loadR rfl ty25 rfl h15 fun v16 h17 => ?_
    refine wo_v rfl (val_lenR rfl Try.underlying25 rfl (sl_s h17)) ?_
    have g22 := (gd_some hd0).1; replace hd0 := (gd_some hd0).2
    refine wo_make (T := tBool) (m := (↑m.rows.length : Int).toNat) (c := (↑m.rows.length : Int).toNat) rfl Try.underlying77 zo4 (idx_nonneg rfl g22.1) (idx_nonneg rfl g22.1) (Nat.le_refl _) (okM_b g22) (okM_n g22) fun v18 f19 cap20 h21 => ?_
    refine wo_alloc rfl za77 fun b24 => ?_
    refine wo_store (i := 0) (vs := [v18]) sz77 rfl rfl (orep_cells h21) rfl rfl rfl (one_cons (orep_one h21) one_nil) ?_
    refine wo_nil ?_
    refine wg_seq ?_
    refine wg_region ?_
    refine wo_alloc rfl za78 fun b26 => ?_
    refine wo_nil ?_
    refine wg_seq ?_
    refine wg_region ?_
    refine wo_v rfl (val_makeFuncL (fs := []) (cs := [(.pointer (some ⟨b24, 0, none⟩)), v1, (.pointer (some ⟨b26, 0, none⟩))]) rfl rfl) ?_
    refine wo_store (i := 0) (vs := [(.func (.func 39) #[] #[(.pointer (some ⟨b24, 0, none⟩)), v1, (.pointer (some ⟨b26, 0, none⟩))])]) sz78 rfl rfl rfl rfl rfl rfl (one_cons rfl one_nil) ?_
    refine wo_nil ?_
    refine wg_seq ?_
    refine wg_region ?_
    refine wo_v rfl (val_loadB (i := 0) ag78 rfl rfl rfl) ?_
    replace hd0 := bd_some hd0; obtain ⟨y28, c29, hd0⟩ := hd0
    refine wo_callO (Oc := [box b24 [v18] 77, f19, box b26 [(.func (.func 39) #[] #[(.pointer (some ⟨b24, 0, none⟩)), v1, (.pointer (some ⟨b26, 0, none⟩))])] 78]) (Or := [] ++ A) (cs := [(.pointer (some ⟨b24, 0, none⟩)), v1, (.pointer (some ⟨b26, 0, none⟩))]) (vs := [(.int .i64 0)]) rfl en39 rfl rfl ((pk 1 rfl (pk 1 rfl (pk 0 rfl (List.Perm.refl _))))) (c_machines_Connected_1 h21 (h2.mono le12) c29) fun v30 R33 Oc32 le34 h31 => ?_
    obtain ⟨v35, f36, rfl, rfl, h37⟩ := h31
    refine wo_nil ?_
    refine wg_seq ?_
    refine wg_region ?_
    refine wo_v rfl (val_loadB (i := 0) ag77 rfl rfl rfl) ?_
    replace hd0 := bd_some hd0; obtain ⟨y41, c42, hd0⟩ := hd0
    refine wo_lend (cs := []) (vs := [v35, (.bool false)]) (φ := fun v => v = (.bool y41)) rfl en40 rfl rfl (fun R38 le39 ll40 => c_slices_Contains_bool (sl_f (lent_o 1 rfl h37 le39 ll40)) c42) fun v43 h44 => ?_
    obtain rfl := h44
    refine wo_v rfl (val_not rfl) ?_
    refine wo_v rfl (val_assign (v := (.bool (!y41))) rfl) ?_
    refine wo_v rfl (val_assign (v := (.int .i64 0)) rfl) ?_
    refine wo_nil ?_
    refine wg_ret ?_
    obtain rfl := Option.some.inj hd0
    refine body_end (D := []) (J := [box b24 [v35] 77, f36, box b26 [(.func (.func 39) #[] #[(.pointer (some ⟨b24, 0, none⟩)), v1, (.pointer (some ⟨b26, 0, none⟩))])] 78]) (rs := [.tmp 2, .tmp 3]) (vs := [(.bool (!y41)), (.int .i64 0)]) ((le4.trans le12).trans le34) rfl rfl ⟨rfl, rfl, trivial⟩ ?_
    exact ⟨rfl, rfl⟩
theorem en12 : Enters Try.prog 12 := enters_of Try.func12 rfl (by kernel_rfl)
theorem c_machines_Transitions {N : Nat} {R : RH} {m : Mach} {v_m : Value} (h_m : VRep (kMach false false) R v_m m) {r : Int × Int} (hd0 : machines_Transitions N m = some r) : CallP Try.prog 13 #[v_m] R (fun v R' => v = .tuple #[(.int .i64 r.1), (.int .i64 r.2)]) := by
  refine callP_of_wg (args := [v_m]) Try.func13 rfl rfl fun A => ?_
  rw [machines_Transitions] at hd0
  refine wg_seq ?_
  refine wg_region ?_
  refine wo_boxR (T := (kMach false false)) rfl rfl h_m fun v1 R3 le4 h2 => ?_
  refine wo_v rfl (val_assign (v := (.int .i64 0)) rfl) ?_
  refine wo_v rfl (val_assign (v := (.int .i64 0)) rfl) ?_
  refine wo_nil ?_
  refine wg_seq ?_
  refine wg_seq ?_
  refine wg_region ?_
  refine wo_loadR rfl ty27 rfl h2 fun v5 h6 => ?_
  replace hd0 := bd_some hd0; obtain ⟨y7, c8, hd0⟩ := hd0
  refine wo_callP rfl en31 rfl (c_machines_Check h6 c8) fun v9 R11 le12 h10 => ?_
  obtain rfl := h10
  refine wo_v rfl (val_assign (v := (.int .i64 y7)) rfl) ?_
  refine wo_nil ?_
  refine wg_seq ?_
  refine wg_region ?_
  refine wo_v rfl (val_move (v := (.int .i64 y7)) rfl) ?_
  refine wo_v rfl (val_neq rfl rfl) ?_
  refine wo_nil ?_
  refine wg_cond rfl (fun e13 => ?_) (fun e13 => ?_)
  · replace hd0 := sel_t e13 hd0; clear e13
    refine wg_seq ?_
    refine wg_region ?_
    refine wo_v rfl (val_move (v := (.int .i64 y7)) rfl) ?_
    refine wo_v rfl (val_assign (v := (.int .i64 0)) rfl) ?_
    refine wo_v rfl (val_assign (v := (.int .i64 y7)) rfl) ?_
    refine wo_nil ?_
    refine wg_ret ?_
    obtain rfl := Option.some.inj hd0
    refine body_end (D := []) (J := []) (rs := [.tmp 2, .tmp 3]) (vs := [(.int .i64 0), (.int .i64 y7)]) (le4.trans le12) rfl rfl ⟨rfl, rfl, trivial⟩ ?_
    exact ⟨rfl, rfl⟩
  · replace hd0 := sel_f e13 hd0; clear e13
    refine wg_skip ?_
    refine wg_seq ?_
    have g14 := (gd_some hd0).1; replace hd0 := (gd_some hd0).2
    replace hd0 := bd_some hd0; obtain ⟨y15, c16, hd0⟩ := hd0
    have g17 := (gd_some hd0).1; replace hd0 := (gd_some hd0).2
    refine wg_drawn 12 [] [phP (tSl false (tSl false kEdge)) m.rows, phR (tSl false (tSl false kEdge)) m.rows, phX (.int .i64 (↑m.rows.length : Int)), phP (tInt .i64) m.inputs, phX (.int .i64 m.inputs), phX (.int .i64 ((↑m.rows.length : Int) * m.inputs)), phR (kMach false false) m, phR (tSl true kA2tInti64) y15, phX (.int .i64 (↑y15.length : Int)), phX (.int .i64 (((↑m.rows.length : Int) * m.inputs) - (↑y15.length : Int))), phX (.int .i64 (((↑m.rows.length : Int) * m.inputs) - (↑y15.length : Int))), phX (.int .i64 0)] mixed (by kernel_rfl) (monoOk_of ⟨mono_p, mono_r, mono_x, mono_p, mono_x, mono_x, mono_r, mono_r, mono_x, mono_x, mono_x, mono_x, trivial⟩) ⟨?_, ?_, ?_, ?_, ?_, ?_, ?_, ?_, ?_, ?_, ?_, ?_, trivial⟩ fun R18 le19 => ?_
    · intro l R0q hle ha hd
      have a1 : l 1 = v1 := ha 1 rfl
      exact gstep_plain rfl rfl rfl (ph_fieldR fd27_2 pt_Mach2 a1 ((h2.mono le12).mono hle))
    · intro l R1q hle ha hd
      obtain ⟨d0, _⟩ := hd
      have f10 : phP (tSl false (tSl false kEdge)) m.rows (l 10) R1q := d0 rfl
      exact gstep_plain rfl rfl rfl (ph_loadR ty25 rfl f10)
    · intro l R2q hle ha hd
      obtain ⟨d0, _⟩ := hd
      have f11 : phR (tSl false (tSl false kEdge)) m.rows (l 11) R2q := d0 rfl
      exact gstep_plain rfl rfl rfl (ph_val (val_lenR rfl Try.underlying25 rfl (sl_s f11)))
    · intro l R3q hle ha hd
      have a1 : l 1 = v1 := ha 1 rfl
      exact gstep_plain rfl rfl rfl (ph_fieldR fd27_0 pt_Mach0 a1 ((h2.mono le12).mono hle))
    · intro l R4q hle ha hd
      obtain ⟨d0, _⟩ := hd
      have f13 : phP (tInt .i64) m.inputs (l 13) R4q := d0 rfl
      exact gstep_plain rfl rfl rfl (ph_exact (ph_loadR ty3 rfl f13) (fun _ _ h => vrep_int.1 h))
    · intro l R5q hle ha hd
      obtain ⟨d0, d1, _⟩ := hd
      have f12 : l 12 = (.int .i64 (↑m.rows.length : Int)) := d0 rfl
      have f14 : l 14 = (.int .i64 m.inputs) := d1 rfl
      exact gstep_plain rfl rfl rfl (ph_val (val_mul f12 f14 g14))
    · intro l R6q hle ha hd
      have a1 : l 1 = v1 := ha 1 rfl
      exact gstep_plain rfl rfl rfl (ph_loadR ty27 a1 ((h2.mono le12).mono hle))
    · intro l R7q hle ha hd
      obtain ⟨d0, _⟩ := hd
      have f16 : phR (kMach false false) m (l 16) R7q := d0 rfl
      exact gstep_plain rfl rfl rfl (ph_callP en38 rfl (c_machines_undefined f16 c16) (fun _ _ h => h))
    · intro l R8q hle ha hd
      obtain ⟨d0, _⟩ := hd
      have f17 : phR (tSl true kA2tInti64) y15 (l 17) R8q := d0 rfl
      exact gstep_plain rfl rfl rfl (ph_val (val_lenR rfl Try.underlying34 rfl (sl_s f17)))
    · intro l R9q hle ha hd
      obtain ⟨d0, d1, _⟩ := hd
      have f15 : l 15 = (.int .i64 ((↑m.rows.length : Int) * m.inputs)) := d0 rfl
      have f18 : l 18 = (.int .i64 (↑y15.length : Int)) := d1 rfl
      exact gstep_plain rfl rfl rfl (ph_val (val_sub f15 f18 g17))
    · intro l R10q hle ha hd
      obtain ⟨d0, d1, d2, d3, d4, d5, d6, d7, d8, d9, d10, d11, _⟩ := hd
      have f19 : l 19 = (.int .i64 (((↑m.rows.length : Int) * m.inputs) - (↑y15.length : Int))) := d0 rfl
      exact gstep_plain rfl rfl rfl (ph_val (val_assign f19))
    · intro l R11q hle ha hd
      obtain ⟨d0, d1, d2, d3, d4, d5, d6, d7, d8, d9, d10, d11, _⟩ := hd
      exact gstep_plain rfl rfl rfl (ph_val (val_assign rfl))
    intro v20 h21
    intro v22 h23
    intro v24 h25
    intro v26 h27
    intro v28 h29
    intro v30 h31
    intro v32 h33
    intro v34 h35
    intro v36 h37
    intro v38 h39
    intro v40 h41
    intro v42 h43
    obtain rfl := Eq.symm h25
    obtain rfl := Eq.symm h29
    obtain rfl := Eq.symm h31
    obtain rfl := Eq.symm h37
    obtain rfl := Eq.symm h39
    obtain rfl := Eq.symm h41
    obtain rfl := Eq.symm h43
    refine wo_nil ?_
    refine wg_ret ?_
    obtain rfl := Option.some.inj hd0
    refine body_end (D := []) (J := []) (rs := [.tmp 2, .tmp 3]) (vs := [(.int .i64 (((↑m.rows.length : Int) * m.inputs) - (↑y15.length : Int))), (.int .i64 0)]) ((le4.trans le12).trans le19) rfl rfl ⟨rfl, rfl, trivial⟩ ?_
    exact ⟨rfl, rfl⟩
theorem en13 : Enters Try.prog 13 := enters_of Try.func13 rfl (by kernel_rfl)
theorem c_machines_Undefined {N : Nat} {R : RH} {m : Mach} {v_m : Value} (h_m : VRep (kMach false false) R v_m m) {r : (List (Int × Int)) × Int} (hd0 : machines_Undefined N m = some r) : CallP Try.prog 14 #[v_m] R (fun v R' => ∃ u0, v = .tuple #[u0, (.int .i64 r.2)] ∧ VRep (tSl true kA2tInti64) R' u0 r.1) := by
  refine callP_of_wg (args := [v_m]) Try.func14 rfl rfl fun A => ?_
  rw [machines_Undefined] at hd0
  refine wg_seq ?_
  refine wg_region ?_
  refine wo_boxR (T := (kMach false false)) rfl rfl h_m fun v1 R3 le4 h2 => ?_
  refine wo_v rfl (val_assign (v := (.slice none 0 0)) rfl) ?_
  refine wo_v rfl (val_assign (v := (.int .i64 0)) rfl) ?_
  refine wo_nil ?_
  refine wg_seq ?_
  refine wg_seq ?_
  refine wg_region ?_
  refine wo_loadR rfl ty27 rfl h2 fun v5 h6 => ?_
  replace hd0 := bd_some hd0; obtain ⟨y7, c8, hd0⟩ := hd0
  refine wo_callP rfl en31 rfl (c_machines_Check h6 c8) fun v9 R11 le12 h10 => ?_
  obtain rfl := h10
  refine wo_v rfl (val_assign (v := (.int .i64 y7)) rfl) ?_
  refine wo_nil ?_
  refine wg_seq ?_
  refine wg_region ?_
  refine wo_v rfl (val_move (v := (.int .i64 y7)) rfl) ?_
  refine wo_v rfl (val_neq rfl rfl) ?_
  refine wo_nil ?_
  refine wg_cond rfl (fun e13 => ?_) (fun e13 => ?_)
  · replace hd0 := sel_t e13 hd0; clear e13
    refine wg_seq ?_
    refine wg_region ?_
    refine wo_v rfl (val_move (v := (.int .i64 y7)) rfl) ?_
    refine wo_v rfl (val_assign (v := (.slice none 0 0)) rfl) ?_
    refine wo_v rfl (val_assign (v := (.int .i64 y7)) rfl) ?_
    refine wo_nil ?_
    refine wg_ret ?_
    obtain rfl := Option.some.inj hd0
    refine body_end (D := []) (J := []) (rs := [.tmp 2, .tmp 3]) (vs := [(.slice none 0 0), (.int .i64 y7)]) (le4.trans le12) rfl rfl ⟨rfl, rfl, trivial⟩ ?_
    exact ⟨rfl, ⟨(.slice none 0 0), rfl, sl_nil⟩⟩
  · replace hd0 := sel_f e13 hd0; clear e13
    refine wg_skip ?_
    refine wg_seq ?_
    refine wg_region ?_
    refine wo_loadR rfl ty27 rfl (h2.mono le12) fun v14 h15 => ?_
    replace hd0 := bd_some hd0; obtain ⟨y16, c17, hd0⟩ := hd0
    refine wo_callP rfl en38 rfl (c_machines_undefined h15 c17) fun v18 R20 le21 h19 => ?_
    refine wo_v rfl (val_assign (v := v18) rfl) ?_
    refine wo_v rfl (val_assign (v := (.int .i64 0)) rfl) ?_
    refine wo_nil ?_
    refine wg_ret ?_
    obtain rfl := Option.some.inj hd0
    refine body_end (D := []) (J := []) (rs := [.tmp 2, .tmp 3]) (vs := [v18, (.int .i64 0)]) ((le4.trans le12).trans le21) rfl rfl ⟨rfl, rfl, trivial⟩ ?_
    exact ⟨rfl, ⟨v18, rfl, h19⟩⟩
theorem en14 : Enters Try.prog 14 := enters_of Try.func14 rfl (by kernel_rfl)
theorem c_gauntletref04_Defined {N : Nat} {R : RH} {m : Mach} {v_m : Value} (h_m : VRep (kMach false false) R v_m m) {r : Int} (hd0 : gauntletref04_Defined N m = some r) : CallP Try.prog 17 #[v_m] R (fun v R' => v = (.int .i64 r)) := by
  refine callP_of_wg (args := [v_m]) Try.func17 rfl rfl fun A => ?_
  rw [gauntletref04_Defined] at hd0
  refine wg_seq ?_
  refine wg_region ?_
  refine wo_boxR (T := (kMach false false)) rfl rfl h_m fun v1 R3 le4 h2 => ?_
  refine wo_v rfl (val_assign (v := (.int .i64 0)) rfl) ?_
  refine wo_nil ?_
  refine wg_seq ?_
  refine wg_region ?_
  refine wo_v rfl (val_assign (v := (.int .i64 0)) rfl) ?_
  refine wo_nil ?_
  replace hd0 := bd_some hd0; obtain ⟨o5, hd1, hd0⟩ := hd0
  refine wg_meet (γ := Int) true [4, 6, 7, 8, 9, 10, 5, 13, 14, 15, 16, 19, 20, 21, 22, 23, 24, 25, 26, 27, 28, 29, 30, 3, 17, 18, 11, 12] (fun g => [(3, (.int .i64 g))]) (fun g => [] ++ A) (fun g R => o5 = g ∧ True) ?_ ?_
  ·
    refine wg_seq ?_
    refine wg_region ?_
    refine wo_v rfl (val_assign (v := (.int .i64 0)) rfl) ?_
    refine wo_nil ?_
    refine wg_block ?_
    refine wg_loopS (γ := Nat × Int × Int) true [6, 7, 8, 9, 10, 5, 13, 14, 15, 16, 19, 20, 21, 22, 23, 24, 25, 26, 27, 28, 29, 30, 3, 17, 18, 11, 12, 4] (fun g => [(3, (.int .i64 g.2.1)), (4, (.int .i64 g.2.2))]) (fun g => [] ++ A) (fun g R => gauntletref04_Defined_L1 N m g.1 g.2.1 g.2.2 = some o5 ∧ True) (fun g => g.1) (N, 0, 0) ⟨rfl, rfl, trivial⟩ ⟨[], List.Perm.refl _⟩ ⟨hd1, trivial⟩ (fun _ => rfl) ?_
    clear hd1
    rintro ⟨F8, x9, x10⟩ j63 D64 R11 hD65 le12 ⟨hd1, _⟩
    obtain rfl := hD65 rfl
    rcases F8 with _ | F8
    · exact none_elim hd1
    replace hd1 : gauntletref04_Defined_L1 N m (F8 + 1) x9 x10 = some o5 := hd1; rw [gauntletref04_Defined_L1] at hd1
    refine wg_seq ?_
    refine wg_seq ?_
    refine wg_region ?_
    refine wo_v rfl (val_move (v := (.int .i64 x10)) rfl) ?_
    refine wo_fieldR rfl fd27_2 pt_Mach2 rfl (h2.mono le12) fun v13 h14 => ?_
    refine wo_loadR rfl ty25 rfl h14 fun v15 h16 => ?_
    refine wo_v rfl (val_lenR rfl Try.underlying25 rfl (sl_s h16)) ?_
    refine wo_v rfl (val_lss rfl rfl) ?_
    refine wo_nil ?_
    refine wg_cond rfl (fun e17 => ?_) (fun e17 => ?_)
    · replace hd1 := sel_t e17 hd1; clear e17
      refine wg_skip ?_
      replace hd1 := bd_some hd1; obtain ⟨o18, hd2, hd1⟩ := hd1
      refine wg_meet (γ := Int) true [5, 13, 14, 15, 16, 19, 20, 21, 22, 23, 24, 25, 26, 27, 28, 29, 30, 3, 17, 18] (fun g => [(3, (.int .i64 g))]) (fun g => [] ++ A) (fun g R => o18 = g ∧ True) ?_ ?_
      ·
        refine wg_block ?_
        refine wg_seq ?_
        refine wg_region ?_
        refine wo_v rfl (val_assign (v := (.int .i64 0)) rfl) ?_
        refine wo_nil ?_
        refine wg_block ?_
        refine wg_loopS (γ := Nat × Int × Int) true [13, 14, 15, 16, 19, 20, 21, 22, 23, 24, 25, 26, 27, 28, 29, 30, 3, 17, 18, 5] (fun g => [(3, (.int .i64 g.2.1)), (5, (.int .i64 g.2.2))]) (fun g => [] ++ A) (fun g R => gauntletref04_Defined_L2 N m x10 g.1 g.2.1 g.2.2 = some o18 ∧ True) (fun g => g.1) (N, x9, 0) ⟨rfl, rfl, trivial⟩ ⟨[], List.Perm.refl _⟩ ⟨hd2, trivial⟩ (fun _ => rfl) ?_
        clear hd2
        rintro ⟨F21, x22, x23⟩ j56 D57 R24 hD58 le25 ⟨hd2, _⟩
        obtain rfl := hD58 rfl
        rcases F21 with _ | F21
        · exact none_elim hd2
        replace hd2 : gauntletref04_Defined_L2 N m x10 (F21 + 1) x22 x23 = some o18 := hd2; rw [gauntletref04_Defined_L2] at hd2
        refine wg_seq ?_
        refine wg_seq ?_
        refine wg_region ?_
        refine wo_v rfl (val_move (v := (.int .i64 x23)) rfl) ?_
        refine wo_fieldR rfl fd27_0 pt_Mach0 rfl (h2.mono (le12.trans le25)) fun v26 h27 => ?_
        refine wo_loadR rfl ty3 rfl h27 fun v28 h29 => ?_
        obtain rfl := vrep_int.1 h29
        refine wo_v rfl (val_lss rfl rfl) ?_
        refine wo_nil ?_
        refine wg_cond rfl (fun e30 => ?_) (fun e30 => ?_)
        · replace hd2 := sel_t e30 hd2; clear e30
          refine wg_skip ?_
          replace hd2 := bd_some hd2; obtain ⟨o31, hd3, hd2⟩ := hd2
          refine wg_meet (γ := Int) true [19, 20, 21, 22, 23, 24, 25, 26, 27, 28, 29, 30, 3] (fun g => [(3, (.int .i64 g))]) (fun g => [] ++ A) (fun g R => o31 = g ∧ True) ?_ ?_
          ·
            refine wg_block ?_
            refine wg_seq ?_
            refine wg_region ?_
            refine wo_fieldR rfl fd27_2 pt_Mach2 rfl (h2.mono (le12.trans le25)) fun v34 h35 => ?_
            refine wo_loadR rfl ty25 rfl h35 fun v36 h37 => ?_
            refine wo_v rfl (val_move (v := (.int .i64 x10)) rfl) ?_
            have g38 := (gd_some hd3).1; replace hd3 := (gd_some hd3).2
            refine wo_indexR (i := x10.toNat) rfl sl25 rfl (sl_s h37) (idx_nonneg rfl g38.1) (okI_lt g38) fun v39 h40 => ?_
            refine wo_loadR rfl ty41 rfl h40 fun v41 h42 => ?_
            refine wo_v rfl (val_move (v := (.int .i64 x23)) rfl) ?_
            have g43 := (gd_some hd3).1; replace hd3 := (gd_some hd3).2
            refine wo_indexR (i := x23.toNat) rfl sl41 rfl (sl_s h42) (idx_nonneg rfl g43.1) (okI_lt g43) fun v44 h45 => ?_
            refine wo_fieldR rfl fd40_0 pt_Edge0 rfl h45 fun v46 h47 => ?_
            refine wo_loadR rfl ty3 rfl h47 fun v48 h49 => ?_
            obtain rfl := vrep_int.1 h49
            refine wo_v rfl (val_geq rfl rfl) ?_
            refine wo_nil ?_
            refine wg_cond rfl (fun e50 => ?_) (fun e50 => ?_)
            · replace hd3 := sel_t e50 hd3; clear e50
              refine wg_region ?_
              refine wo_v rfl (val_move (v := (.int .i64 x22)) rfl) ?_
              have g51 := (gd_some hd3).1; replace hd3 := (gd_some hd3).2
              refine wo_v rfl (val_add rfl rfl g51) ?_
              refine wo_v rfl (val_assign (v := (.int .i64 (x22 + 1))) rfl) ?_
              refine wo_nil ?_
              exact ⟨(fun _ => rfl), (RH.le.refl _), (by repeat (first | exact off_self | refine off_upd rfl ?_ | refine off_setl rfl ?_ | refine off_mask_sub rfl ?_)), x22 + 1, ⟨rfl, trivial⟩, ⟨[], List.Perm.refl _⟩, (Option.some.inj hd3).symm, trivial⟩
            · replace hd3 := sel_f e50 hd3; clear e50
              refine wg_skip ?_
              exact ⟨(fun _ => rfl), (RH.le.refl _), (by repeat (first | exact off_self | refine off_upd rfl ?_ | refine off_setl rfl ?_ | refine off_mask_sub rfl ?_)), x22, ⟨rfl, trivial⟩, ⟨[], List.Perm.refl _⟩, (Option.some.inj hd3).symm, trivial⟩
          ·
            rintro o31 j52 D53 R32 hD54 le33 ⟨rfl, _⟩
            obtain rfl := hD54 rfl
            refine wg_region ?_
            refine wo_v rfl (val_move (v := (.int .i64 x23)) rfl) ?_
            have g55 := (gd_some hd2).1; replace hd2 := (gd_some hd2).2
            refine wo_v rfl (val_add rfl rfl g55) ?_
            refine wo_v rfl (val_assign (v := (.int .i64 (x23 + 1))) rfl) ?_
            refine wo_nil ?_
            exact ⟨(fun _ => rfl), le33, (by repeat (first | exact off_self | refine off_upd rfl ?_ | refine off_setl rfl ?_ | refine off_mask_sub rfl ?_)), (F21, o31, x23 + 1), Nat.lt_succ_self _, ⟨rfl, rfl, trivial⟩, ⟨[], List.Perm.refl _⟩, hd2, trivial⟩
        · replace hd2 := sel_f e30 hd2; clear e30
          refine wg_exit ?_
          exact ⟨(fun _ => rfl), le25, (by repeat (first | exact off_self | refine off_upd rfl ?_ | refine off_setl rfl ?_ | refine off_mask_sub rfl ?_)), x22, ⟨rfl, trivial⟩, ⟨[], List.Perm.refl _⟩, (Option.some.inj hd2).symm, trivial⟩
      ·
        rintro o18 j59 D60 R19 hD61 le20 ⟨rfl, _⟩
        obtain rfl := hD61 rfl
        refine wg_region ?_
        refine wo_v rfl (val_move (v := (.int .i64 x10)) rfl) ?_
        have g62 := (gd_some hd1).1; replace hd1 := (gd_some hd1).2
        refine wo_v rfl (val_add rfl rfl g62) ?_
        refine wo_v rfl (val_assign (v := (.int .i64 (x10 + 1))) rfl) ?_
        refine wo_nil ?_
        exact ⟨(fun _ => rfl), le20, (by repeat (first | exact off_self | refine off_upd rfl ?_ | refine off_setl rfl ?_ | refine off_mask_sub rfl ?_)), (F8, o18, x10 + 1), Nat.lt_succ_self _, ⟨rfl, rfl, trivial⟩, ⟨[], List.Perm.refl _⟩, hd1, trivial⟩
    · replace hd1 := sel_f e17 hd1; clear e17
      refine wg_exit ?_
      exact ⟨(fun _ => rfl), le12, (by repeat (first | exact off_self | refine off_upd rfl ?_ | refine off_setl rfl ?_ | refine off_mask_sub rfl ?_)), x9, ⟨rfl, trivial⟩, ⟨[], List.Perm.refl _⟩, (Option.some.inj hd1).symm, trivial⟩
  ·
    rintro o5 j66 D67 R6 hD68 le7 ⟨rfl, _⟩
    obtain rfl := hD68 rfl
    refine wg_seq ?_
    refine wg_region ?_
    refine wo_v rfl (val_move (v := (.int .i64 o5)) rfl) ?_
    refine wo_v rfl (val_assign (v := (.int .i64 o5)) rfl) ?_
    refine wo_nil ?_
    refine wg_ret ?_
    obtain rfl := Option.some.inj hd0
    refine body_end (D := []) (J := []) (rs := [.tmp 2]) (vs := [(.int .i64 o5)]) (le4.trans le7) rfl rfl ⟨rfl, trivial⟩ ?_
    exact ⟨rfl, rfl⟩
theorem en17 : Enters Try.prog 17 := enters_of Try.func17 rfl (by kernel_rfl)
theorem c_gauntletref04_Complete {N : Nat} {R : RH} {m : Mach} {v_m : Value} (h_m : VRep (kMach false false) R v_m m) {r : Bool} (hd0 : gauntletref04_Complete N m = some r) : CallP Try.prog 15 #[v_m] R (fun v R' => v = (.bool r)) := by
  refine callP_of_wg (args := [v_m]) Try.func15 rfl rfl fun A => ?_
  rw [gauntletref04_Complete] at hd0
  refine wg_seq ?_
  refine wg_region ?_
  refine wo_boxR (T := (kMach false false)) rfl rfl h_m fun v1 R3 le4 h2 => ?_
  refine wo_v rfl (val_assign (v := (.bool false)) rfl) ?_
  refine wo_nil ?_
  refine wg_seq ?_
  replace hd0 := bd_some hd0; obtain ⟨y5, c6, hd0⟩ := hd0
  have g7 := (gd_some hd0).1; replace hd0 := (gd_some hd0).2
  refine wg_drawn 10 [] [phR (kMach false false) m, phX (.int .i64 y5), phP (tSl false (tSl false kEdge)) m.rows, phR (tSl false (tSl false kEdge)) m.rows, phX (.int .i64 (↑m.rows.length : Int)), phP (tInt .i64) m.inputs, phX (.int .i64 m.inputs), phX (.int .i64 ((↑m.rows.length : Int) * m.inputs)), phX (.bool (decide (y5 = ((↑m.rows.length : Int) * m.inputs)))), phX (.bool (decide (y5 = ((↑m.rows.length : Int) * m.inputs))))] mixed (by kernel_rfl) (monoOk_of ⟨mono_r, mono_x, mono_p, mono_r, mono_x, mono_p, mono_x, mono_x, mono_x, mono_x, trivial⟩) ⟨?_, ?_, ?_, ?_, ?_, ?_, ?_, ?_, ?_, ?_, trivial⟩ fun R8 le9 => ?_
  · intro l R0q hle ha hd
    have a1 : l 1 = v1 := ha 1 rfl
    exact gstep_plain rfl rfl rfl (ph_loadR ty27 a1 (h2.mono hle))
  · intro l R1q hle ha hd
    obtain ⟨d0, _⟩ := hd
    have f3 : phR (kMach false false) m (l 3) R1q := d0 rfl
    exact gstep_plain rfl rfl rfl (ph_callP en17 rfl (c_gauntletref04_Defined f3 c6) (fun _ _ h => h))
  · intro l R2q hle ha hd
    have a1 : l 1 = v1 := ha 1 rfl
    exact gstep_plain rfl rfl rfl (ph_fieldR fd27_2 pt_Mach2 a1 (h2.mono hle))
  · intro l R3q hle ha hd
    obtain ⟨d0, _⟩ := hd
    have f5 : phP (tSl false (tSl false kEdge)) m.rows (l 5) R3q := d0 rfl
    exact gstep_plain rfl rfl rfl (ph_loadR ty25 rfl f5)
  · intro l R4q hle ha hd
    obtain ⟨d0, _⟩ := hd
    have f6 : phR (tSl false (tSl false kEdge)) m.rows (l 6) R4q := d0 rfl
    exact gstep_plain rfl rfl rfl (ph_val (val_lenR rfl Try.underlying25 rfl (sl_s f6)))
  · intro l R5q hle ha hd
    have a1 : l 1 = v1 := ha 1 rfl
    exact gstep_plain rfl rfl rfl (ph_fieldR fd27_0 pt_Mach0 a1 (h2.mono hle))
  · intro l R6q hle ha hd
    obtain ⟨d0, _⟩ := hd
    have f8 : phP (tInt .i64) m.inputs (l 8) R6q := d0 rfl
    exact gstep_plain rfl rfl rfl (ph_exact (ph_loadR ty3 rfl f8) (fun _ _ h => vrep_int.1 h))
  · intro l R7q hle ha hd
    obtain ⟨d0, d1, _⟩ := hd
    have f7 : l 7 = (.int .i64 (↑m.rows.length : Int)) := d0 rfl
    have f9 : l 9 = (.int .i64 m.inputs) := d1 rfl
    exact gstep_plain rfl rfl rfl (ph_val (val_mul f7 f9 g7))
  · intro l R8q hle ha hd
    obtain ⟨d0, d1, _⟩ := hd
    have f4 : l 4 = (.int .i64 y5) := d0 rfl
    have f10 : l 10 = (.int .i64 ((↑m.rows.length : Int) * m.inputs)) := d1 rfl
    exact gstep_plain rfl rfl rfl (ph_val (val_eql f4 f10))
  · intro l R9q hle ha hd
    obtain ⟨d0, d1, d2, d3, d4, d5, d6, d7, d8, d9, d10, _⟩ := hd
    have f11 : l 11 = (.bool (decide (y5 = ((↑m.rows.length : Int) * m.inputs)))) := d0 rfl
    exact gstep_plain rfl rfl rfl (ph_val (val_assign f11))
  intro v10 h11
  intro v12 h13
  intro v14 h15
  intro v16 h17
  intro v18 h19
  intro v20 h21
  intro v22 h23
  intro v24 h25
  intro v26 h27
  intro v28 h29
  obtain rfl := Eq.symm h13
  obtain rfl := Eq.symm h19
  obtain rfl := Eq.symm h23
  obtain rfl := Eq.symm h25
  obtain rfl := Eq.symm h27
  obtain rfl := Eq.symm h29
  refine wo_nil ?_
  refine wg_ret ?_
  obtain rfl := Option.some.inj hd0
  refine body_end (D := []) (J := []) (rs := [.tmp 2]) (vs := [(.bool (decide (y5 = ((↑m.rows.length : Int) * m.inputs))))]) (le4.trans le9) rfl rfl ⟨rfl, trivial⟩ ?_
  exact ⟨rfl, rfl⟩
theorem en15 : Enters Try.prog 15 := enters_of Try.func15 rfl (by kernel_rfl)
theorem c_gauntletlaw04_edge {N : Nat} {R : RH} {to_ : Int} {out : Int} {r : Edge} (hd0 : gauntletlaw04_edge N to_ out = some r) : CallP Try.prog 18 #[(.int .i64 to_), (.int .i64 out)] R (fun v R' => v = (enc_Edge r)) := by
  refine callP_of_wg (args := [(.int .i64 to_), (.int .i64 out)]) Try.func18 rfl rfl fun A => ?_
  rw [gauntletlaw04_edge] at hd0
  refine wg_seq ?_
  refine wg_region ?_
  refine wo_alloc rfl za40 fun b1 => ?_
  refine wo_nil ?_
  refine wg_seq ?_
  refine wg_region ?_
  refine wo_v rfl (val_move (v := (.int .i64 to_)) rfl) ?_
  refine wo_v rfl (val_move (v := (.int .i64 out)) rfl) ?_
  refine wo_v rfl (val_buildL (ps := [(0, (.int .i64 to_)), (1, (.int .i64 out))]) (v := (.agg #[(.int .i64 to_), (.int .i64 out)])) rfl (fun w => by kernel_rfl)) ?_
  refine wo_store (i := 0) (vs := [(.int .i64 to_), (.int .i64 out)]) sz40 rfl rfl rfl rfl rfl rfl (one_cons rfl (one_cons rfl one_nil)) ?_
  refine wo_nil ?_
  refine wg_ret ?_
  obtain rfl := Option.some.inj hd0
  refine body_end (D := []) (J := [box b1 [(.int .i64 to_), (.int .i64 out)] 40]) (rs := [.cell 4 40]) (vs := [(.agg #[(.int .i64 to_), (.int .i64 out)])]) (RH.le.refl _) rfl rfl ⟨⟨_, rfl, fun w hh => run_cellA (i := 0) hh rfl rfl ag40 sz40 rfl rfl⟩, trivial⟩ ?_
  exact ⟨rfl, rfl⟩
theorem ar42 : ArrOk Try.prog 42 2 1 := arrOk_of (e := 3) Try.underlying42 (fun w => by kernel_rfl)
theorem en18 : Enters Try.prog 18 := enters_of Try.func18 rfl (by kernel_rfl)
theorem eq42 : EqOk2 Try.prog 42 := eqOk2_array (e := 3) (by kernel_rfl) (by kernel_rfl) (by kernel_rfl) (fun w => by kernel_rfl)
theorem zo3 : ZeroOk Try.prog 3 (tInt .i64) (0 : Int) 8 := by
  obtain ⟨i, zv, hi, hz, hs, hb, hv⟩ := info_zero (P := Try.prog) (e := 3) (zv := (.int .i64 0)) (k := 1) (b := 8) (by kernel_rfl)
  exact ⟨i, zv, hi, hz, hs, hb, fun R => by subst hv; exact rfl⟩
theorem c_machines_state {N : Nat} {R : RH} {m : Mach} {v_m : Value} (h_m : VRep (kMach false false) R v_m m) {s : Int} {r : Int} (hd0 : machines_state N m s = some r) : CallP Try.prog 42 #[v_m, (.int .i64 s)] R (fun v R' => v = (.int .i64 r)) := by
  refine callP_of_wg (args := [v_m, (.int .i64 s)]) Try.func42 rfl rfl fun A => ?_
  rw [machines_state] at hd0
  refine wg_seq ?_
  refine wg_region ?_
  refine wo_boxR (T := (kMach false false)) rfl rfl h_m fun v1 R3 le4 h2 => ?_
  refine wo_v rfl (val_assign (v := (.int .i64 0)) rfl) ?_
  refine wo_nil ?_
  refine wg_seq ?_
  refine wg_seq ?_
  refine wg_region ?_
  refine wo_loadR rfl ty27 rfl h2 fun v5 h6 => ?_
  replace hd0 := bd_some hd0; obtain ⟨y7, c8, hd0⟩ := hd0
  refine wo_callP rfl en31 rfl (c_machines_Check h6 c8) fun v9 R11 le12 h10 => ?_
  obtain rfl := h10
  refine wo_v rfl (val_assign (v := (.int .i64 y7)) rfl) ?_
  refine wo_nil ?_
  refine wg_seq ?_
  refine wg_region ?_
  refine wo_v rfl (val_move (v := (.int .i64 y7)) rfl) ?_
  refine wo_v rfl (val_neq rfl rfl) ?_
  refine wo_nil ?_
  refine wg_cond rfl (fun e13 => ?_) (fun e13 => ?_)
  · replace hd0 := sel_t e13 hd0; clear e13
    refine wg_seq ?_
    refine wg_region ?_
    refine wo_v rfl (val_move (v := (.int .i64 y7)) rfl) ?_
    refine wo_v rfl (val_assign (v := (.int .i64 y7)) rfl) ?_
    refine wo_nil ?_
    refine wg_ret ?_
    obtain rfl := Option.some.inj hd0
    refine body_end (D := []) (J := []) (rs := [.tmp 4]) (vs := [(.int .i64 y7)]) (le4.trans le12) rfl rfl ⟨rfl, trivial⟩ ?_
    exact ⟨rfl, rfl⟩
  · replace hd0 := sel_f e13 hd0; clear e13
    refine wg_skip ?_
    refine wg_seq ?_
    refine wg_seq ?_
    refine wg_guarded 9 [] [phX (.int .i64 s), phX (.bool (decide (s < 0))), phX (.bool (decide (s < 0))), phG (true && ((decide (s < 0)) == false)) (phX (.int .i64 s)), phG (true && ((decide (s < 0)) == false)) (phP (tSl false (tSl false kEdge)) m.rows), phG (true && ((decide (s < 0)) == false)) (phR (tSl false (tSl false kEdge)) m.rows), phG (true && ((decide (s < 0)) == false)) (phX (.int .i64 (↑m.rows.length : Int))), phG (true && ((decide (s < 0)) == false)) (phX (.bool (decide ((↑m.rows.length : Int) ≤ s)))), phX (.bool ((decide (s < 0)) || (decide ((↑m.rows.length : Int) ≤ s))))] (by kernel_rfl) (by kernel_rfl) (monoOk_of ⟨mono_x, mono_x, mono_x, (mono_g mono_x), (mono_g mono_p), (mono_g mono_r), (mono_g mono_x), (mono_g mono_x), mono_x, trivial⟩) ⟨?_, ?_, ?_, ?_, ?_, ?_, ?_, ?_, ?_, trivial⟩ fun R14 le15 => ?_
    · intro l R0q hle ha hd
      have a1 : l 1 = (.int .i64 s) := ha 1 rfl
      exact gstep_plain rfl rfl rfl (ph_val (val_move a1))
    · intro l R1q hle ha hd
      obtain ⟨d0, _⟩ := hd
      have f11 : l 11 = (.int .i64 s) := d0 rfl
      exact gstep_plain rfl rfl rfl (ph_val (val_lss f11 rfl))
    · intro l R2q hle ha hd
      obtain ⟨d0, _⟩ := hd
      have f12 : l 12 = (.bool (decide (s < 0))) := d0 rfl
      exact gstep_plain rfl rfl rfl (ph_val (val_move f12))
    · intro l R3q hle ha hd
      obtain ⟨d0, _⟩ := hd
      have a1 : l 1 = (.int .i64 s) := ha 1 rfl
      exact gstep_guard (Gj := true) (Bj := decide (s < 0)) rfl rfl rfl (gtrue (d0 rfl)) rfl (fun hG hB => ph_val (val_move a1))
    · intro l R4q hle ha hd
      obtain ⟨d0, _⟩ := hd
      have a2 : l 2 = v1 := ha 2 rfl
      exact gstep_guard (Gj := true) (Bj := decide (s < 0)) rfl rfl rfl (gtrue (d0 rfl)) rfl (fun hG hB => ph_fieldR fd27_2 pt_Mach2 a2 ((h2.mono le12).mono hle))
    · intro l R5q hle ha hd
      obtain ⟨d0, d1, _⟩ := hd
      have f15g : phG (true && ((decide (s < 0)) == false)) (phP (tSl false (tSl false kEdge)) m.rows) (l 15) R5q := d0 rfl
      exact gstep_guard (Gj := true) (Bj := decide (s < 0)) rfl rfl rfl (gtrue (d1 rfl)) rfl (fun hG hB => ph_loadR ty25 rfl (f15g.1 (gandT rfl hB)))
    · intro l R6q hle ha hd
      obtain ⟨d0, d1, _⟩ := hd
      have f16g : phG (true && ((decide (s < 0)) == false)) (phR (tSl false (tSl false kEdge)) m.rows) (l 16) R6q := d0 rfl
      exact gstep_guard (Gj := true) (Bj := decide (s < 0)) rfl rfl rfl (gtrue (d1 rfl)) rfl (fun hG hB => ph_val (val_lenR rfl Try.underlying25 rfl (sl_s (f16g.1 (gandT rfl hB)))))
    · intro l R7q hle ha hd
      obtain ⟨d0, d1, d2, _⟩ := hd
      have f14g : phG (true && ((decide (s < 0)) == false)) (phX (.int .i64 s)) (l 14) R7q := d0 rfl
      have f17g : phG (true && ((decide (s < 0)) == false)) (phX (.int .i64 (↑m.rows.length : Int))) (l 17) R7q := d1 rfl
      exact gstep_guard (Gj := true) (Bj := decide (s < 0)) rfl rfl rfl (gtrue (d2 rfl)) rfl (fun hG hB => ph_val (val_geq (show l 14 = (.int .i64 s) from f14g.1 (gandT rfl hB)) (show l 17 = (.int .i64 (↑m.rows.length : Int)) from f17g.1 (gandT rfl hB))))
    · intro l R8q hle ha hd
      obtain ⟨d0, d1, _⟩ := hd
      have f13 : l 13 = (.bool (decide (s < 0))) := d0 rfl
      have f18g : phG (true && ((decide (s < 0)) == false)) (phX (.bool (decide ((↑m.rows.length : Int) ≤ s)))) (l 18) R8q := d1 rfl
      exact gstep_plain rfl rfl rfl (ph_val (val_or f13 rfl (fun hb => (show l 18 = (.bool (decide ((↑m.rows.length : Int) ≤ s))) from f18g.1 (gandT rfl hb)))))
    intro v16 h17
    intro v18 h19
    intro v20 h21
    intro v22 h23
    intro v24 h25
    intro v26 h27
    intro v28 h29
    intro v30 h31
    intro v32 h33
    obtain rfl := Eq.symm h17
    obtain rfl := Eq.symm h19
    obtain rfl := Eq.symm h21
    obtain rfl := Eq.symm h33
    refine wo_nil ?_
    refine wg_cond rfl (fun e34 => ?_) (fun e34 => ?_)
    · replace hd0 := sel_t e34 hd0; clear e34
      refine wg_seq ?_
      refine wg_region ?_
      refine wo_v rfl (val_assign (v := (.int .i64 1)) rfl) ?_
      refine wo_nil ?_
      refine wg_ret ?_
      obtain rfl := Option.some.inj hd0
      refine body_end (D := []) (J := []) (rs := [.tmp 4]) (vs := [(.int .i64 1)]) ((le4.trans le12).trans le15) rfl rfl ⟨rfl, trivial⟩ ?_
      exact ⟨rfl, rfl⟩
    · replace hd0 := sel_f e34 hd0; clear e34
      refine wg_skip ?_
      refine wg_seq ?_
      refine wg_region ?_
      refine wo_v rfl (val_assign (v := (.int .i64 0)) rfl) ?_
      refine wo_nil ?_
      refine wg_ret ?_
      obtain rfl := Option.some.inj hd0
      refine body_end (D := []) (J := []) (rs := [.tmp 4]) (vs := [(.int .i64 0)]) ((le4.trans le12).trans le15) rfl rfl ⟨rfl, trivial⟩ ?_
      exact ⟨rfl, rfl⟩
theorem en42 : Enters Try.prog 42 := enters_of Try.func42 rfl (by kernel_rfl)
theorem sl49 : SlOk Try.prog 49 3 (tInt .i64) := ⟨Try.underlying49, ty3⟩
theorem c_slices_IndexFunc_int {N : Nat} {R : RH} {s : (List Int)} {v_s : Value} (h_s : VRep (tSl false (tInt .i64)) R v_s s) {f : Int → Option Bool} {v_f : Value} (h_f : FOk1 Try.prog R v_f (tInt .i64) tBool f) {r : Int} (hd0 : slices_IndexFunc_int N s f = some r) : CallP Try.prog 62 #[v_s, v_f] R (fun v R' => v = (.int .i64 r)) := by
  refine callP_of_wg (args := [v_s, v_f]) Try.func62 rfl rfl fun A => ?_
  rw [slices_IndexFunc_int] at hd0
  refine wg_seq ?_
  refine wg_region ?_
  refine wo_v rfl (val_assign (v := (.int .i64 0)) rfl) ?_
  refine wo_nil ?_
  replace hd0 := bd_some hd0; obtain ⟨q2, hd1, hd0⟩ := hd0
  refine wg_meet (γ := Unit) true [6, 7, 8, 9, 10, 5, 11, 12, 13, 14, 15, 16, 17, 4, 18] (fun g => []) (fun g => [] ++ A) (fun g R => q2 = Ex.go g ∧ True) ?_ ?_
  ·
    refine wg_seq ?_
    refine wg_region ?_
    refine wo_v rfl (val_move (v := v_s) rfl) ?_
    refine wo_v rfl (val_lenR rfl Try.underlying49 rfl (sl_s h_s)) ?_
    refine wo_v rfl (val_move (v := (.int .i64 0)) rfl) ?_
    refine wo_nil ?_
    refine wg_block ?_
    refine wg_loopS (γ := Nat × Int) true [9, 10, 5, 11, 12, 13, 14, 15, 16, 17, 4, 18, 8] (fun g => [(8, (.int .i64 g.2))]) (fun g => [] ++ A) (fun g R => slices_IndexFunc_int_L1 N s f g.1 g.2 = some q2 ∧ True) (fun g => g.1) (N, 0) ⟨rfl, trivial⟩ ⟨[], List.Perm.refl _⟩ ⟨hd1, trivial⟩ (fun _ => rfl) ?_
    clear hd1
    rintro ⟨F5, x6⟩ j23 D24 R7 hD25 le8 ⟨hd1, _⟩
    obtain rfl := hD25 rfl
    rcases F5 with _ | F5
    · exact none_elim hd1
    replace hd1 : slices_IndexFunc_int_L1 N s f (F5 + 1) x6 = some q2 := hd1; rw [slices_IndexFunc_int_L1] at hd1
    refine wg_seq ?_
    refine wg_region ?_
    refine wo_v rfl (val_lss rfl rfl) ?_
    refine wo_nil ?_
    refine wg_seq ?_
    refine wg_cond rfl (fun e9 => ?_) (fun e9 => ?_)
    · replace hd1 := sel_t e9 hd1; clear e9
      refine wg_skip ?_
      refine wg_seq ?_
      refine wg_block ?_
      refine wg_seq ?_
      refine wg_region ?_
      refine wo_v rfl (val_move (v := (.int .i64 x6)) rfl) ?_
      refine wo_v rfl (val_assign (v := (.int .i64 x6)) rfl) ?_
      refine wo_nil ?_
      refine wg_seq ?_
      refine wg_region ?_
      refine wo_v rfl (val_move (v := v_f) rfl) ?_
      refine wo_v rfl (val_move (v := v_s) rfl) ?_
      refine wo_v rfl (val_move (v := (.int .i64 x6)) rfl) ?_
      have g10 := (gd_some hd1).1; replace hd1 := (gd_some hd1).2
      refine wo_indexR (i := x6.toNat) rfl sl49 rfl (sl_s (h_s.mono le8)) (idx_nonneg rfl g10.1) (okI_lt g10) fun v11 h12 => ?_
      refine wo_loadR rfl ty3 rfl h12 fun v13 h14 => ?_
      obtain rfl := vrep_int.1 h14
      replace hd1 := bd_some hd1; obtain ⟨y15, c16, hd1⟩ := hd1
      refine wo_callF rfl rfl rfl ((h_f.mono le8) _ (RH.le.refl _) (ix s x6) _ _ (vrep_int.2 rfl) c16) fun v19 R17 le18 h20 => ?_
      obtain rfl := vrep_bool.1 h20
      refine wo_nil ?_
      refine wg_cond rfl (fun e21 => ?_) (fun e21 => ?_)
      · replace hd1 := sel_t e21 hd1; clear e21
        refine wg_seq ?_
        refine wg_region ?_
        refine wo_v rfl (val_move (v := (.int .i64 x6)) rfl) ?_
        refine wo_v rfl (val_assign (v := (.int .i64 x6)) rfl) ?_
        refine wo_nil ?_
        refine wg_ret ?_
        replace hd0 := on_rt hd1 hd0
        obtain rfl := Option.some.inj hd0
        refine body_end (D := []) (J := []) (rs := [.tmp 4]) (vs := [(.int .i64 x6)]) (le8.trans le18) rfl rfl ⟨rfl, trivial⟩ ?_
        exact ⟨rfl, rfl⟩
      · replace hd1 := sel_f e21 hd1; clear e21
        refine wg_skip ?_
        refine wg_region ?_
        have g22 := (gd_some hd1).1; replace hd1 := (gd_some hd1).2
        refine wo_v rfl (val_add rfl rfl g22) ?_
        refine wo_v rfl (val_move (v := (.int .i64 (x6 + 1))) rfl) ?_
        refine wo_nil ?_
        exact ⟨(fun _ => rfl), le18, (by repeat (first | exact off_self | refine off_upd rfl ?_ | refine off_setl rfl ?_ | refine off_mask_sub rfl ?_)), (F5, x6 + 1), Nat.lt_succ_self _, ⟨rfl, trivial⟩, ⟨[], List.Perm.refl _⟩, hd1, trivial⟩
    · replace hd1 := sel_f e9 hd1; clear e9
      refine wg_exit ?_
      exact ⟨(fun _ => rfl), le8, (by repeat (first | exact off_self | refine off_upd rfl ?_ | refine off_setl rfl ?_ | refine off_mask_sub rfl ?_)), (), trivial, ⟨[], List.Perm.refl _⟩, (Option.some.inj hd1).symm, trivial⟩
  ·
    rintro o1 j26 D27 R3 hD28 le4 ⟨rfl, _⟩
    obtain rfl := hD28 rfl
    replace hd0 := on_go hd0
    refine wg_seq ?_
    refine wg_region ?_
    refine wo_v rfl (val_assign (v := (.int .i64 (-1))) rfl) ?_
    refine wo_nil ?_
    refine wg_ret ?_
    obtain rfl := Option.some.inj hd0
    refine body_end (D := []) (J := []) (rs := [.tmp 4]) (vs := [(.int .i64 (-1))]) le4 rfl rfl ⟨rfl, trivial⟩ ?_
    exact ⟨rfl, rfl⟩
theorem en62 : Enters Try.prog 62 := enters_of Try.func62 rfl (by kernel_rfl)
theorem c_slices_ContainsFunc_int {N : Nat} {R : RH} {s : (List Int)} {v_s : Value} (h_s : VRep (tSl false (tInt .i64)) R v_s s) {f : Int → Option Bool} {v_f : Value} (h_f : FOk1 Try.prog R v_f (tInt .i64) tBool f) {r : Bool} (hd0 : slices_ContainsFunc_int N s f = some r) : CallP Try.prog 58 #[v_s, v_f] R (fun v R' => v = (.bool r)) := by
  refine callP_of_wg (args := [v_s, v_f]) Try.func58 rfl rfl fun A => ?_
  rw [slices_ContainsFunc_int] at hd0
  refine wg_seq ?_
  refine wg_region ?_
  refine wo_v rfl (val_assign (v := (.bool false)) rfl) ?_
  refine wo_nil ?_
  refine wg_seq ?_
  refine wg_region ?_
  refine wo_v rfl (val_move (v := v_s) rfl) ?_
  refine wo_v rfl (val_move (v := v_f) rfl) ?_
  replace hd0 := bd_some hd0; obtain ⟨y1, c2, hd0⟩ := hd0
  refine wo_callP rfl en62 rfl (c_slices_IndexFunc_int h_s h_f c2) fun v3 R5 le6 h4 => ?_
  obtain rfl := h4
  refine wo_v rfl (val_geq rfl rfl) ?_
  refine wo_v rfl (val_assign (v := (.bool (decide (0 ≤ y1)))) rfl) ?_
  refine wo_nil ?_
  refine wg_ret ?_
  obtain rfl := Option.some.inj hd0
  refine body_end (D := []) (J := []) (rs := [.tmp 4]) (vs := [(.bool (decide (0 ≤ y1)))]) le6 rfl rfl ⟨rfl, trivial⟩ ?_
  exact ⟨rfl, rfl⟩
theorem en58 : Enters Try.prog 58 := enters_of Try.func58 rfl (by kernel_rfl)
theorem c_words_Check_1 {N : Nat} {R : RH} {c : Int} {p0_ : Int} {v_p0_ : Value} (h_p0_ : PRep (tInt .i64) R v_p0_ p0_) {r : Bool} (hd0 : words_Check_1 N c p0_ = some r) : CallP Try.prog 59 #[(.int .i64 c), v_p0_] R (fun v R' => v = (.bool r)) := by
  refine callP_of_wg (args := [(.int .i64 c), v_p0_]) Try.func59 rfl rfl fun A => ?_
  rw [words_Check_1] at hd0
  refine wg_seq ?_
  refine wg_region ?_
  refine wo_v rfl (val_assign (v := (.bool false)) rfl) ?_
  refine wo_nil ?_
  refine wg_seq ?_
  refine wg_guarded 8 [] [phX (.int .i64 c), phX (.bool (decide (c < 0))), phX (.bool (decide (c < 0))), phG (true && ((decide (c < 0)) == false)) (phX (.int .i64 c)), phG (true && ((decide (c < 0)) == false)) (phX (.int .i64 p0_)), phG (true && ((decide (c < 0)) == false)) (phX (.bool (decide (p0_ ≤ c)))), phX (.bool ((decide (c < 0)) || (decide (p0_ ≤ c)))), phX (.bool ((decide (c < 0)) || (decide (p0_ ≤ c))))] (by kernel_rfl) (by kernel_rfl) (monoOk_of ⟨mono_x, mono_x, mono_x, (mono_g mono_x), (mono_g mono_x), (mono_g mono_x), mono_x, mono_x, trivial⟩) ⟨?_, ?_, ?_, ?_, ?_, ?_, ?_, ?_, trivial⟩ fun R1 le2 => ?_
  · intro l R0q hle ha hd
    have a0 : l 0 = (.int .i64 c) := ha 0 rfl
    exact gstep_plain rfl rfl rfl (ph_val (val_move a0))
  · intro l R1q hle ha hd
    obtain ⟨d0, _⟩ := hd
    have f4 : l 4 = (.int .i64 c) := d0 rfl
    exact gstep_plain rfl rfl rfl (ph_val (val_lss f4 rfl))
  · intro l R2q hle ha hd
    obtain ⟨d0, _⟩ := hd
    have f5 : l 5 = (.bool (decide (c < 0))) := d0 rfl
    exact gstep_plain rfl rfl rfl (ph_val (val_move f5))
  · intro l R3q hle ha hd
    obtain ⟨d0, _⟩ := hd
    have a0 : l 0 = (.int .i64 c) := ha 0 rfl
    exact gstep_guard (Gj := true) (Bj := decide (c < 0)) rfl rfl rfl (gtrue (d0 rfl)) rfl (fun hG hB => ph_val (val_move a0))
  · intro l R4q hle ha hd
    obtain ⟨d0, _⟩ := hd
    have a1 : l 1 = v_p0_ := ha 1 rfl
    exact gstep_guard (Gj := true) (Bj := decide (c < 0)) rfl rfl rfl (gtrue (d0 rfl)) rfl (fun hG hB => ph_exact (ph_loadR ty3 a1 (h_p0_.mono hle)) (fun _ _ h => vrep_int.1 h))
  · intro l R5q hle ha hd
    obtain ⟨d0, d1, d2, _⟩ := hd
    have f7g : phG (true && ((decide (c < 0)) == false)) (phX (.int .i64 c)) (l 7) R5q := d0 rfl
    have f8g : phG (true && ((decide (c < 0)) == false)) (phX (.int .i64 p0_)) (l 8) R5q := d1 rfl
    exact gstep_guard (Gj := true) (Bj := decide (c < 0)) rfl rfl rfl (gtrue (d2 rfl)) rfl (fun hG hB => ph_val (val_geq (show l 7 = (.int .i64 c) from f7g.1 (gandT rfl hB)) (show l 8 = (.int .i64 p0_) from f8g.1 (gandT rfl hB))))
  · intro l R6q hle ha hd
    obtain ⟨d0, d1, _⟩ := hd
    have f6 : l 6 = (.bool (decide (c < 0))) := d0 rfl
    have f9g : phG (true && ((decide (c < 0)) == false)) (phX (.bool (decide (p0_ ≤ c)))) (l 9) R6q := d1 rfl
    exact gstep_plain rfl rfl rfl (ph_val (val_or f6 rfl (fun hb => (show l 9 = (.bool (decide (p0_ ≤ c))) from f9g.1 (gandT rfl hb)))))
  · intro l R7q hle ha hd
    obtain ⟨d0, d1, d2, d3, d4, d5, d6, d7, d8, _⟩ := hd
    have f10 : l 10 = (.bool ((decide (c < 0)) || (decide (p0_ ≤ c)))) := d0 rfl
    exact gstep_plain rfl rfl rfl (ph_val (val_assign f10))
  intro v3 h4
  intro v5 h6
  intro v7 h8
  intro v9 h10
  intro v11 h12
  intro v13 h14
  intro v15 h16
  intro v17 h18
  obtain rfl := Eq.symm h4
  obtain rfl := Eq.symm h6
  obtain rfl := Eq.symm h8
  obtain rfl := Eq.symm h16
  obtain rfl := Eq.symm h18
  refine wo_nil ?_
  refine wg_ret ?_
  obtain rfl := Option.some.inj hd0
  refine body_end (D := []) (J := []) (rs := [.tmp 3]) (vs := [(.bool ((decide (c < 0)) || (decide (p0_ ≤ c))))]) le2 rfl rfl ⟨rfl, trivial⟩ ?_
  exact ⟨rfl, rfl⟩
theorem en59 : Enters Try.prog 59 := enters_of Try.func59 rfl (by kernel_rfl)
theorem c_words_Check {N : Nat} {R : RH} {w_ : (List Int)} {v_w_ : Value} (h_w_ : VRep (tSl false (tInt .i64)) R v_w_ w_) {inputs : Int} {r : Int} (hd0 : words_Check N w_ inputs = some r) : CallP Try.prog 43 #[v_w_, (.int .i64 inputs)] R (fun v R' => v = (.int .i64 r)) := by
  refine callP_of_wg (args := [v_w_, (.int .i64 inputs)]) Try.func43 rfl rfl fun A => ?_
  rw [words_Check] at hd0
  refine wg_seq ?_
  refine wg_region ?_
  refine wo_boxR (T := (tInt .i64)) rfl rfl (vrep_int.2 rfl) fun v1 R3 le4 h2 => ?_
  refine wo_v rfl (val_assign (v := (.int .i64 0)) rfl) ?_
  refine wo_nil ?_
  refine wg_seq ?_
  refine wg_seq ?_
  refine wg_guarded 7 [] [phX (.int .i64 inputs), phX (.bool (decide (16 < inputs))), phX (.bool (decide (16 < inputs))), phG (true && ((decide (16 < inputs)) == false)) (phX v_w_), phG (true && ((decide (16 < inputs)) == false)) (phX (.int .i64 (↑w_.length : Int))), phG (true && ((decide (16 < inputs)) == false)) (phX (.bool (decide (256 < (↑w_.length : Int))))), phX (.bool ((decide (16 < inputs)) || (decide (256 < (↑w_.length : Int)))))] (by kernel_rfl) (by kernel_rfl) (monoOk_of ⟨mono_x, mono_x, mono_x, (mono_g mono_x), (mono_g mono_x), (mono_g mono_x), mono_x, trivial⟩) ⟨?_, ?_, ?_, ?_, ?_, ?_, ?_, trivial⟩ fun R5 le6 => ?_
  · intro l R0q hle ha hd
    have a3 : l 3 = v1 := ha 3 rfl
    exact gstep_plain rfl rfl rfl (ph_exact (ph_loadR ty3 a3 (h2.mono hle)) (fun _ _ h => vrep_int.1 h))
  · intro l R1q hle ha hd
    obtain ⟨d0, _⟩ := hd
    have f5 : l 5 = (.int .i64 inputs) := d0 rfl
    exact gstep_plain rfl rfl rfl (ph_val (val_gtr f5 rfl))
  · intro l R2q hle ha hd
    obtain ⟨d0, _⟩ := hd
    have f6 : l 6 = (.bool (decide (16 < inputs))) := d0 rfl
    exact gstep_plain rfl rfl rfl (ph_val (val_move f6))
  · intro l R3q hle ha hd
    obtain ⟨d0, _⟩ := hd
    have a0 : l 0 = v_w_ := ha 0 rfl
    exact gstep_guard (Gj := true) (Bj := decide (16 < inputs)) rfl rfl rfl (gtrue (d0 rfl)) rfl (fun hG hB => ph_val (val_move a0))
  · intro l R4q hle ha hd
    obtain ⟨d0, d1, _⟩ := hd
    have f8g : phG (true && ((decide (16 < inputs)) == false)) (phX v_w_) (l 8) R4q := d0 rfl
    exact gstep_guard (Gj := true) (Bj := decide (16 < inputs)) rfl rfl rfl (gtrue (d1 rfl)) rfl (fun hG hB => ph_val (val_lenR rfl Try.underlying49 (show l 8 = v_w_ from f8g.1 (gandT rfl hB)) (sl_s ((h_w_.mono le4).mono hle))))
  · intro l R5q hle ha hd
    obtain ⟨d0, d1, _⟩ := hd
    have f9g : phG (true && ((decide (16 < inputs)) == false)) (phX (.int .i64 (↑w_.length : Int))) (l 9) R5q := d0 rfl
    exact gstep_guard (Gj := true) (Bj := decide (16 < inputs)) rfl rfl rfl (gtrue (d1 rfl)) rfl (fun hG hB => ph_val (val_gtr (show l 9 = (.int .i64 (↑w_.length : Int)) from f9g.1 (gandT rfl hB)) rfl))
  · intro l R6q hle ha hd
    obtain ⟨d0, d1, _⟩ := hd
    have f7 : l 7 = (.bool (decide (16 < inputs))) := d0 rfl
    have f10g : phG (true && ((decide (16 < inputs)) == false)) (phX (.bool (decide (256 < (↑w_.length : Int))))) (l 10) R6q := d1 rfl
    exact gstep_plain rfl rfl rfl (ph_val (val_or f7 rfl (fun hb => (show l 10 = (.bool (decide (256 < (↑w_.length : Int)))) from f10g.1 (gandT rfl hb)))))
  intro v7 h8
  intro v9 h10
  intro v11 h12
  intro v13 h14
  intro v15 h16
  intro v17 h18
  intro v19 h20
  obtain rfl := Eq.symm h8
  obtain rfl := Eq.symm h10
  obtain rfl := Eq.symm h12
  obtain rfl := Eq.symm h20
  refine wo_nil ?_
  refine wg_cond rfl (fun e21 => ?_) (fun e21 => ?_)
  · replace hd0 := sel_t e21 hd0; clear e21
    refine wg_seq ?_
    refine wg_region ?_
    refine wo_v rfl (val_assign (v := (.int .i64 3)) rfl) ?_
    refine wo_nil ?_
    refine wg_ret ?_
    obtain rfl := Option.some.inj hd0
    refine body_end (D := []) (J := []) (rs := [.tmp 4]) (vs := [(.int .i64 3)]) (le4.trans le6) rfl rfl ⟨rfl, trivial⟩ ?_
    exact ⟨rfl, rfl⟩
  · replace hd0 := sel_f e21 hd0; clear e21
    refine wg_skip ?_
    refine wg_seq ?_
    refine wg_seq ?_
    replace hd0 := bd_some hd0; obtain ⟨y22, c23, hd0⟩ := hd0
    refine wg_guarded 7 [] [phX (.int .i64 inputs), phX (.bool (decide (inputs < 1))), phX (.bool (decide (inputs < 1))), phG (true && ((decide (inputs < 1)) == false)) (phX v_w_), phG (true && ((decide (inputs < 1)) == false)) (phX (.func (.func 59) #[] #[v1])), phG (true && ((decide (inputs < 1)) == false)) (phX (.bool (y22.getD default))), phX (.bool ((decide (inputs < 1)) || (y22.getD default)))] (by kernel_rfl) (by kernel_rfl) (monoOk_of ⟨mono_x, mono_x, mono_x, (mono_g mono_x), (mono_g mono_x), (mono_g mono_x), mono_x, trivial⟩) ⟨?_, ?_, ?_, ?_, ?_, ?_, ?_, trivial⟩ fun R24 le25 => ?_
    · intro l R0q hle ha hd
      have a3 : l 3 = v1 := ha 3 rfl
      exact gstep_plain rfl rfl rfl (ph_exact (ph_loadR ty3 a3 ((h2.mono le6).mono hle)) (fun _ _ h => vrep_int.1 h))
    · intro l R1q hle ha hd
      obtain ⟨d0, _⟩ := hd
      have f12 : l 12 = (.int .i64 inputs) := d0 rfl
      exact gstep_plain rfl rfl rfl (ph_val (val_lss f12 rfl))
    · intro l R2q hle ha hd
      obtain ⟨d0, _⟩ := hd
      have f13 : l 13 = (.bool (decide (inputs < 1))) := d0 rfl
      exact gstep_plain rfl rfl rfl (ph_val (val_move f13))
    · intro l R3q hle ha hd
      obtain ⟨d0, _⟩ := hd
      have a0 : l 0 = v_w_ := ha 0 rfl
      exact gstep_guard (Gj := true) (Bj := decide (inputs < 1)) rfl rfl rfl (gtrue (d0 rfl)) rfl (fun hG hB => ph_val (val_move a0))
    · intro l R4q hle ha hd
      obtain ⟨d0, _⟩ := hd
      have a3 : l 3 = v1 := ha 3 rfl
      exact gstep_guard (Gj := true) (Bj := decide (inputs < 1)) rfl rfl rfl (gtrue (d0 rfl)) rfl (fun hG hB => ph_val (val_makeFuncL (fs := []) (cs := [v1]) rfl (by simp only [List.map, ev, a3] <;> rfl)))
    · intro l R5q hle ha hd
      obtain ⟨d0, d1, d2, d3, _⟩ := hd
      have f15g : phG (true && ((decide (inputs < 1)) == false)) (phX v_w_) (l 15) R5q := d0 rfl
      have f16g : phG (true && ((decide (inputs < 1)) == false)) (phX (.func (.func 59) #[] #[v1])) (l 16) R5q := d1 rfl
      exact gstep_guard (Gj := true) (Bj := decide (inputs < 1)) rfl rfl rfl (gtrue (d2 rfl)) rfl (fun hG hB => ph_callP en58 (by simp only [List.map, ev, (show l 15 = v_w_ from f15g.1 (gandT rfl hB)), (show l 16 = (.func (.func 59) #[] #[v1]) from f16g.1 (gandT rfl hB))] <;> rfl) (c_slices_ContainsFunc_int ((h_w_.mono (le4.trans le6)).mono hle) ((fok1_of (cs := [v1]) en59 fun R1 hq z0 u0 y k0 hy => by obtain rfl := vrep_int.1 k0; exact CallP.mono (c_words_Check_1 ((h2.mono le6).mono hq) hy) fun v R2 _ hv => vrep_bool.2 hv).mono hle) (gop_def c23 (gandT hG hB))) (fun _ _ h => h))
    · intro l R6q hle ha hd
      obtain ⟨d0, d1, _⟩ := hd
      have f14 : l 14 = (.bool (decide (inputs < 1))) := d0 rfl
      have f17g : phG (true && ((decide (inputs < 1)) == false)) (phX (.bool (y22.getD default))) (l 17) R6q := d1 rfl
      exact gstep_plain rfl rfl rfl (ph_val (val_or f14 rfl (fun hb => (show l 17 = (.bool (y22.getD default)) from f17g.1 (gandT rfl hb)))))
    intro v26 h27
    intro v28 h29
    intro v30 h31
    intro v32 h33
    intro v34 h35
    intro v36 h37
    intro v38 h39
    obtain rfl := Eq.symm h27
    obtain rfl := Eq.symm h29
    obtain rfl := Eq.symm h31
    obtain rfl := Eq.symm h39
    refine wo_nil ?_
    refine wg_cond rfl (fun e40 => ?_) (fun e40 => ?_)
    · replace hd0 := sel_t e40 hd0; clear e40
      refine wg_seq ?_
      refine wg_region ?_
      refine wo_v rfl (val_assign (v := (.int .i64 1)) rfl) ?_
      refine wo_nil ?_
      refine wg_ret ?_
      obtain rfl := Option.some.inj hd0
      refine body_end (D := []) (J := []) (rs := [.tmp 4]) (vs := [(.int .i64 1)]) ((le4.trans le6).trans le25) rfl rfl ⟨rfl, trivial⟩ ?_
      exact ⟨rfl, rfl⟩
    · replace hd0 := sel_f e40 hd0; clear e40
      refine wg_skip ?_
      refine wg_seq ?_
      refine wg_region ?_
      refine wo_v rfl (val_assign (v := (.int .i64 0)) rfl) ?_
      refine wo_nil ?_
      refine wg_ret ?_
      obtain rfl := Option.some.inj hd0
      refine body_end (D := []) (J := []) (rs := [.tmp 4]) (vs := [(.int .i64 0)]) ((le4.trans le6).trans le25) rfl rfl ⟨rfl, trivial⟩ ?_
      exact ⟨rfl, rfl⟩
theorem en43 : Enters Try.prog 43 := enters_of Try.func43 rfl (by kernel_rfl)
theorem c_machines_run {N : Nat} {R : RH} {m : Mach} {v_m : Value} (h_m : VRep (kMach false false) R v_m m) {s : Int} {w_ : (List Int)} {v_w_ : Value} (h_w_ : VRep (tSl false (tInt .i64)) R v_w_ w_) {r : (List Int) × Int} (hd0 : machines_run N m s w_ = some r) : CallP Try.prog 44 #[v_m, (.int .i64 s), v_w_] R (fun v R' => ∃ u0, v = .tuple #[u0, (.int .i64 r.2)] ∧ VRep (tSl true (tInt .i64)) R' u0 r.1) := by
  refine callP_of_wg (args := [v_m, (.int .i64 s), v_w_]) Try.func44 rfl rfl fun A => ?_
  rw [machines_run] at hd0
  refine wg_seq ?_
  refine wg_region ?_
  refine wo_boxR (T := (kMach false false)) rfl rfl h_m fun v1 R3 le4 h2 => ?_
  refine wo_v rfl (val_assign (v := (.slice none 0 0)) rfl) ?_
  refine wo_v rfl (val_assign (v := (.int .i64 0)) rfl) ?_
  refine wo_nil ?_
  refine wg_seq ?_
  refine wg_region ?_
  refine wo_v rfl (val_move (v := v_w_) rfl) ?_
  refine wo_v rfl (val_lenR rfl Try.underlying49 rfl (sl_s (h_w_.mono le4))) ?_
  have g9 := (gd_some hd0).1; replace hd0 := (gd_some hd0).2
  refine wo_make (T := (tInt .i64)) (m := (↑w_.length : Int).toNat) (c := (↑w_.length : Int).toNat) rfl Try.underlying49 zo3 (idx_nonneg rfl g9.1) (idx_nonneg rfl g9.1) (Nat.le_refl _) (okM_b g9) (okM_n g9) fun v5 f6 cap7 h8 => ?_
  refine wo_v rfl (val_assign (v := v5) rfl) ?_
  refine wo_nil ?_
  replace hd0 := bd_some hd0; obtain ⟨o11, hd1, hd0⟩ := hd0
  refine wg_meet (γ := (Int × List Int) × Frag) true [15, 16, 17, 18, 19, 20, 21, 9, 10, 22, 11, 23, 24, 25, 26, 27, 28, 29, 30, 31, 32, 33, 34, 35, 36, 37, 38, 39, 1, 40] (fun g => [(1, (.int .i64 g.1.1))]) (fun g => [g.2] ++ A) (fun g R => o11 = g.1 ∧ ORep (tInt .i64) R g.2 v5 g.1.2 ∧ capOf v5 = g.1.2.length ∧ True) ?_ ?_
  ·
    refine wg_seq ?_
    refine wg_region ?_
    refine wo_v rfl (val_move (v := v_w_) rfl) ?_
    refine wo_v rfl (val_lenR rfl Try.underlying49 rfl (sl_s (h_w_.mono le4))) ?_
    refine wo_v rfl (val_move (v := (.int .i64 0)) rfl) ?_
    refine wo_nil ?_
    refine wg_block ?_
    refine wg_loopS (γ := Nat × Int × Int × (List Int) × Frag) true [18, 19, 20, 21, 9, 10, 22, 11, 23, 24, 25, 26, 27, 28, 29, 30, 31, 32, 33, 34, 35, 36, 37, 38, 39, 1, 40, 17] (fun g => [(1, (.int .i64 g.2.1)), (17, (.int .i64 g.2.2.1))]) (fun g => [g.2.2.2.2] ++ A) (fun g R => machines_run_L1 N m w_ g.1 g.2.1 g.2.2.1 g.2.2.2.1 = some o11 ∧ ORep (tInt .i64) R g.2.2.2.2 v5 g.2.2.2.1 ∧ capOf v5 = g.2.2.2.1.length ∧ True) (fun g => g.1) (N, s, 0, (mk (↑w_.length : Int) (0 : Int)), f6) ⟨rfl, rfl, trivial⟩ ⟨[], List.Perm.refl _⟩ ⟨hd1, h8, (cap7.trans List.length_replicate.symm), trivial⟩ (fun _ => rfl) ?_
    clear hd1
    rintro ⟨F17, x18, x19, x20, f23⟩ j85 D86 R21 hD87 le22 ⟨hd1, h24, ht25, _⟩
    obtain rfl := hD87 rfl
    rcases F17 with _ | F17
    · exact none_elim hd1
    replace hd1 : machines_run_L1 N m w_ (F17 + 1) x18 x19 x20 = some o11 := hd1; rw [machines_run_L1] at hd1
    refine wg_seq ?_
    refine wg_region ?_
    refine wo_v rfl (val_lss rfl rfl) ?_
    refine wo_nil ?_
    refine wg_seq ?_
    refine wg_cond rfl (fun e26 => ?_) (fun e26 => ?_)
    · replace hd1 := sel_t e26 hd1; clear e26
      refine wg_skip ?_
      refine wg_seq ?_
      refine wg_block ?_
      refine wg_seq ?_
      refine wg_region ?_
      refine wo_v rfl (val_move (v := (.int .i64 x19)) rfl) ?_
      have g27 := (gd_some hd1).1; replace hd1 := (gd_some hd1).2
      refine wo_indexR (i := x19.toNat) rfl sl49 rfl (sl_s (h_w_.mono (le4.trans le22))) (idx_nonneg rfl g27.1) (okI_lt g27) fun v28 h29 => ?_
      refine wo_loadR rfl ty3 rfl h29 fun v30 h31 => ?_
      obtain rfl := vrep_int.1 h31
      refine wo_v rfl (val_assign (v := (.int .i64 x19)) rfl) ?_
      refine wo_v rfl (val_assign (v := (.int .i64 (ix w_ x19))) rfl) ?_
      refine wo_nil ?_
      refine wg_seq ?_
      refine wg_region ?_
      replace hd1 := bd_some hd1; obtain ⟨y32, c33, hd1⟩ := hd1
      refine wo_callP rfl en55 rfl (c_machines_none  c33) fun v34 R36 le37 h35 => ?_
      obtain rfl := h35
      refine wo_alloc rfl za40 fun b38 => ?_
      refine wo_store (i := 0) (vs := [(.int .i64 y32.to), (.int .i64 y32.out)]) sz40 rfl rfl rfl rfl rfl rfl (one_cons rfl (one_cons rfl one_nil)) ?_
      refine wo_nil ?_
      replace hd1 := bd_some hd1; obtain ⟨o40, hd2, hd1⟩ := hd1
      refine wg_meet (γ := (Int × Int)) true [23, 24, 25, 26, 27, 28, 29, 30, 31, 32] (fun g => []) (fun g => [f23, box b38 [(.int .i64 g.1), (.int .i64 g.2)] 40] ++ A) (fun g R => o40 = g ∧ True) ?_ ?_
      ·
        refine wg_seq ?_
        refine wg_region ?_
        refine wo_v rfl (val_move (v := (.int .i64 x18)) rfl) ?_
        refine wo_v rfl (val_neq rfl rfl) ?_
        refine wo_nil ?_
        refine wg_cond rfl (fun e43 => ?_) (fun e43 => ?_)
        · replace hd2 := sel_t e43 hd2; clear e43
          refine wg_region ?_
          refine wo_fieldR rfl fd27_2 pt_Mach2 rfl (h2.mono (le22.trans le37)) fun v44 h45 => ?_
          refine wo_loadR rfl ty25 rfl h45 fun v46 h47 => ?_
          refine wo_v rfl (val_move (v := (.int .i64 x18)) rfl) ?_
          have g48 := (gd_some hd2).1; replace hd2 := (gd_some hd2).2
          refine wo_indexR (i := x18.toNat) rfl sl25 rfl (sl_s h47) (idx_nonneg rfl g48.1) (okI_lt g48) fun v49 h50 => ?_
          refine wo_loadR rfl ty41 rfl h50 fun v51 h52 => ?_
          refine wo_v rfl (val_move (v := (.int .i64 (ix w_ x19))) rfl) ?_
          have g53 := (gd_some hd2).1; replace hd2 := (gd_some hd2).2
          refine wo_indexR (i := (ix w_ x19).toNat) rfl sl41 rfl (sl_s h52) (idx_nonneg rfl g53.1) (okI_lt g53) fun v54 h55 => ?_
          refine wo_loadR rfl ty40 rfl h55 fun v56 h57 => ?_
          obtain rfl := vrep_Edge.1 h57
          refine wo_store (i := 0) (vs := [(.int .i64 ((ix (ix m.rows x18) (ix w_ x19)).to)), (.int .i64 ((ix (ix m.rows x18) (ix w_ x19)).out))]) sz40 rfl rfl rfl rfl rfl rfl (one_cons rfl (one_cons rfl one_nil)) ?_
          refine wo_nil ?_
          exact ⟨(fun _ => rfl), (RH.le.refl _), (by repeat (first | exact off_self | refine off_upd rfl ?_ | refine off_setl rfl ?_ | refine off_mask_sub rfl ?_)), ((ix (ix m.rows x18) (ix w_ x19)).to, (ix (ix m.rows x18) (ix w_ x19)).out), trivial, ⟨[], (pk 1 rfl (pk 0 rfl (List.Perm.refl _)))⟩, (Option.some.inj hd2).symm, trivial⟩
        · replace hd2 := sel_f e43 hd2; clear e43
          refine wg_skip ?_
          exact ⟨(fun _ => rfl), (RH.le.refl _), (by repeat (first | exact off_self | refine off_upd rfl ?_ | refine off_setl rfl ?_ | refine off_mask_sub rfl ?_)), (y32.to, y32.out), trivial, ⟨[], (pk 1 rfl (pk 0 rfl (List.Perm.refl _)))⟩, (Option.some.inj hd2).symm, trivial⟩
      ·
        rintro o40 j58 D59 R41 hD60 le42 ⟨rfl, _⟩
        obtain rfl := hD60 rfl
        have g61 := (gd_some hd1).1; replace hd1 := (gd_some hd1).2
        refine wg_free [7] [(fun es => phX v5), (fun es => phX (.int .i64 x19)), (fun es => phX (.pointer (some ⟨b38, 1, none⟩))), (fun es => phX (.int .i64 o40.2)), (fun es => phX (.pointer (some ⟨b38, 0, none⟩))), (fun es => phX (.int .i64 o40.1)), (fun es => (fun u _ => OPtr (tInt .i64) v5 x20 u x19.toNat)), (fun es => (fun _ _ => True)), (fun es => phX (.int .i64 o40.1))] (fun fl es R O => (fl = [false] ∧ O.Perm ([f23, box b38 [(.int .i64 o40.1), (.int .i64 o40.2)] 40] ++ A) ∧ True) ∨ (fl = [true] ∧ ∃ (f_o10 : Frag), O.Perm ([f_o10, box b38 [(.int .i64 o40.1), (.int .i64 o40.2)] 40] ++ A) ∧ ORep (tInt .i64) R f_o10 v5 (up x20 x19 o40.2) ∧ True)) mixed (by kernel_rfl) ⟨(monoE_of mono_x), (monoE_of mono_x), (monoE_of mono_x), (monoE_of mono_x), (monoE_of mono_x), (monoE_of mono_x), (monoE_of (fun _ _ _ _ h => h)), (fun _ _ _ _ _ h => h), (monoE_of mono_x), trivial⟩ (by
            rintro fl es R R' O hle (⟨rfl, hp, _⟩ | ⟨rfl, f_o10, hp, h_o10, _⟩)
            · exact (.inl ⟨rfl, hp, trivial⟩)
            · exact (.inr ⟨rfl, f_o10, hp, (h_o10.mono hle), trivial⟩)) ⟨(fun _ _ _ _ _ h => h), (fun _ _ _ _ _ h => h), (fun _ _ _ _ _ h => h), (fun _ _ _ _ _ h => h), (fun _ _ _ _ _ h => h), (fun _ _ _ _ _ h => h), (fun _ _ _ _ _ h => h), (fun _ _ _ _ _ h => h), (fun _ _ _ _ _ h => h), trivial⟩ (fun es => .inl ⟨rfl, (List.Perm.refl _), trivial⟩) ⟨?_, ?_, ?_, ?_, ?_, ?_, ?_, ?_, ?_, trivial⟩ fun R62 le63 => ?_
        · intro l R0q fl O hle ha hd hk hW
          have a8 : l 8 = v5 := ha 8 rfl
          exact ph_val (val_move a8)
        · intro l R1q fl O hle ha hd hk hW
          have a9 : l 9 = (.int .i64 x19) := ha 9 rfl
          exact ph_val (val_move a9)
        · intro l R2q fl O hle ha hd hk hW
          have a11 : l 11 = (.pointer (some ⟨b38, 0, none⟩)) := ha 11 rfl
          exact ph_val (val_fieldB fd40_1 a11)
        · intro l R3q fl O hle ha hd hk hW
          obtain ⟨d0, _⟩ := hd
          have f35 : l 35 = (.pointer (some ⟨b38, 1, none⟩)) := d0 rfl
          rcases hW with ⟨rfl, hp, _⟩ | ⟨rfl, f_o10, hp, h_o10, _⟩
          · exact eff_permP hp (ph_val (val_loadB (i := 1) ag3 f35 rfl rfl))
          · exact kn_no hk (by kernel_rfl)
        · intro l R4q fl O hle ha hd hk hW
          obtain ⟨d0, _⟩ := hd
          have a11 : l 11 = (.pointer (some ⟨b38, 0, none⟩)) := ha 11 rfl
          exact ph_val (val_fieldB fd40_0 a11)
        · intro l R5q fl O hle ha hd hk hW
          obtain ⟨d0, d1, _⟩ := hd
          have f37 : l 37 = (.pointer (some ⟨b38, 0, none⟩)) := d0 rfl
          rcases hW with ⟨rfl, hp, _⟩ | ⟨rfl, f_o10, hp, h_o10, _⟩
          · exact eff_permP hp (ph_val (val_loadB (i := 1) ag3 f37 rfl rfl))
          · exact eff_permP hp (ph_val (val_loadB (i := 1) ag3 f37 rfl rfl))
        · intro l R6q fl O hle ha hd hk hW
          obtain ⟨d0, d1, d2, d3, d4, d5, d6, d7, _⟩ := hd
          have f33 : l 33 = v5 := d0 rfl
          have f34 : l 34 = (.int .i64 x19) := d1 rfl
          exact ph_indexO (i := x19.toNat) sl49 f33 ((h24.mono (le37.trans le42)).mono hle) (idx_nonneg f34 g61.1) (okI_lt g61)
        · intro l R7q fl O hle ha hd hk hf hW
          obtain ⟨d0, d1, d2, d3, d4, d5, d6, d7, _⟩ := hd
          have f39 : (fun u _ => OPtr (tInt .i64) v5 x20 u x19.toNat) (l 39) R7q := d0 rfl
          have f36 : l 36 = (.int .i64 o40.2) := d1 rfl
          rcases hW with ⟨rfl, hp, _⟩ | ⟨rfl, f_o10, hp, h_o10, _⟩
          · refine eff_perm hp ?_
            refine Eff.mono (free_storeO (i := x19.toNat) (j := 0) ty3 ((h24.mono (le37.trans le42)).mono hle) rfl rfl f39 (okI_lt g61) f36 (vrep_int.2 rfl)) ?_
            rintro v R' O' hle' ⟨rfl, f, rfl, ho⟩
            exact ⟨trivial, .inr ⟨rfl, f, (List.Perm.refl _), ho, trivial⟩⟩
          · cases hf
        · intro l R8q fl O hle ha hd hk hW
          obtain ⟨d0, d1, d2, d3, d4, d5, d6, d7, d8, d9, _⟩ := hd
          have f38 : l 38 = (.int .i64 o40.1) := d0 rfl
          exact ph_val (val_assign f38)
        intro v64
        intro v65
        intro v66
        intro v67
        intro v68
        intro v69
        intro v70
        intro v71
        intro h72
        intro h73
        intro h74
        intro h75
        intro h76
        intro h77
        intro h78
        intro h79
        rintro OO80 (⟨e, _⟩ | ⟨_, f81, hp, h82, _⟩)
        · cases e
        refine ⟨[], _, hp, ?_⟩
        obtain rfl := Eq.symm h72
        obtain rfl := Eq.symm h73
        obtain rfl := Eq.symm h74
        obtain rfl := Eq.symm h75
        obtain rfl := Eq.symm h76
        obtain rfl := Eq.symm h77
        obtain rfl := Eq.symm h79
        refine wo_nil ?_
        refine wg_region ?_
        have g84 := (gd_some hd1).1; replace hd1 := (gd_some hd1).2
        refine wo_v rfl (val_add rfl rfl g84) ?_
        refine wo_v rfl (val_move (v := (.int .i64 (x19 + 1))) rfl) ?_
        refine wo_nil ?_
        exact ⟨(fun _ => rfl), ((le37.trans le42).trans le63), (by repeat (first | exact off_self | refine off_upd rfl ?_ | refine off_setl rfl ?_ | refine off_mask_sub rfl ?_)), (F17, o40.1, x19 + 1, (up x20 x19 o40.2), f81), Nat.lt_succ_self _, ⟨rfl, rfl, trivial⟩, ⟨[box b38 [(.int .i64 o40.1), (.int .i64 o40.2)] 40], (pk 1 rfl (pk 0 rfl (List.Perm.refl _)))⟩, hd1, h82, (ht25.trans List.length_set.symm), trivial⟩
    · replace hd1 := sel_f e26 hd1; clear e26
      refine wg_exit ?_
      exact ⟨(fun _ => rfl), le22, (by repeat (first | exact off_self | refine off_upd rfl ?_ | refine off_setl rfl ?_ | refine off_mask_sub rfl ?_)), ((x18, x20), f23), ⟨rfl, trivial⟩, ⟨[], List.Perm.refl _⟩, (Option.some.inj hd1).symm, h24, ht25, trivial⟩
  ·
    rintro ⟨o11, f14⟩ j88 D89 R12 hD90 le13 ⟨rfl, h15, ht16, _⟩
    obtain rfl := hD90 rfl
    refine wg_seq ?_
    refine wg_region ?_
    refine wo_v rfl (val_move (v := v5) rfl) ?_
    refine wo_v rfl (val_move (v := (.int .i64 o11.1)) rfl) ?_
    refine wo_v rfl (val_assign (v := v5) rfl) ?_
    refine wo_v rfl (val_assign (v := (.int .i64 o11.1)) rfl) ?_
    refine wo_nil ?_
    refine wg_freeze (i := 0) rfl h15 fun R91 le92 h93 => ?_
    have h94 : VRep (tSl true (tInt .i64)) R91 v5 o11.2 := (sl_t h93 ht16)
    refine wg_ret ?_
    obtain rfl := Option.some.inj hd0
    refine body_end (D := []) (J := []) (rs := [.tmp 6, .tmp 7]) (vs := [v5, (.int .i64 o11.1)]) ((le4.trans le13).trans le92) rfl rfl ⟨rfl, rfl, trivial⟩ ?_
    exact ⟨rfl, ⟨v5, rfl, h94⟩⟩
theorem en44 : Enters Try.prog 44 := enters_of Try.func44 rfl (by kernel_rfl)
theorem c_machines_Run {N : Nat} {R : RH} {m : Mach} {v_m : Value} (h_m : VRep (kMach false false) R v_m m) {s : Int} {w_ : (List Int)} {v_w_ : Value} (h_w_ : VRep (tSl false (tInt .i64)) R v_w_ w_) {r : (List Int) × Int} (hd0 : machines_Run N m s w_ = some r) : CallP Try.prog 21 #[v_m, (.int .i64 s), v_w_] R (fun v R' => ∃ u0, v = .tuple #[u0, (.int .i64 r.2)] ∧ VRep (tSl true (tInt .i64)) R' u0 r.1) := by
  refine callP_of_wg (args := [v_m, (.int .i64 s), v_w_]) Try.func21 rfl rfl fun A => ?_
  rw [machines_Run] at hd0
  refine wg_seq ?_
  refine wg_region ?_
  refine wo_boxR (T := (kMach false false)) rfl rfl h_m fun v1 R3 le4 h2 => ?_
  refine wo_v rfl (val_assign (v := (.slice none 0 0)) rfl) ?_
  refine wo_v rfl (val_assign (v := (.int .i64 0)) rfl) ?_
  refine wo_nil ?_
  refine wg_seq ?_
  refine wg_seq ?_
  refine wg_region ?_
  refine wo_loadR rfl ty27 rfl h2 fun v5 h6 => ?_
  refine wo_v rfl (val_move (v := (.int .i64 s)) rfl) ?_
  replace hd0 := bd_some hd0; obtain ⟨y7, c8, hd0⟩ := hd0
  refine wo_callP rfl en42 rfl (c_machines_state h6 c8) fun v9 R11 le12 h10 => ?_
  obtain rfl := h10
  refine wo_v rfl (val_assign (v := (.int .i64 y7)) rfl) ?_
  refine wo_nil ?_
  refine wg_seq ?_
  refine wg_region ?_
  refine wo_v rfl (val_move (v := (.int .i64 y7)) rfl) ?_
  refine wo_v rfl (val_neq rfl rfl) ?_
  refine wo_nil ?_
  refine wg_cond rfl (fun e13 => ?_) (fun e13 => ?_)
  · replace hd0 := sel_t e13 hd0; clear e13
    refine wg_seq ?_
    refine wg_region ?_
    refine wo_v rfl (val_move (v := (.int .i64 y7)) rfl) ?_
    refine wo_v rfl (val_assign (v := (.slice none 0 0)) rfl) ?_
    refine wo_v rfl (val_assign (v := (.int .i64 y7)) rfl) ?_
    refine wo_nil ?_
    refine wg_ret ?_
    obtain rfl := Option.some.inj hd0
    refine body_end (D := []) (J := []) (rs := [.tmp 6, .tmp 7]) (vs := [(.slice none 0 0), (.int .i64 y7)]) (le4.trans le12) rfl rfl ⟨rfl, rfl, trivial⟩ ?_
    exact ⟨rfl, ⟨(.slice none 0 0), rfl, sl_nil⟩⟩
  · replace hd0 := sel_f e13 hd0; clear e13
    refine wg_skip ?_
    refine wg_seq ?_
    refine wg_seq ?_
    refine wg_region ?_
    refine wo_v rfl (val_move (v := v_w_) rfl) ?_
    refine wo_fieldR rfl fd27_0 pt_Mach0 rfl (h2.mono le12) fun v14 h15 => ?_
    refine wo_loadR rfl ty3 rfl h15 fun v16 h17 => ?_
    obtain rfl := vrep_int.1 h17
    replace hd0 := bd_some hd0; obtain ⟨y18, c19, hd0⟩ := hd0
    refine wo_callP rfl en43 rfl (c_words_Check (h_w_.mono (le4.trans le12)) c19) fun v20 R22 le23 h21 => ?_
    obtain rfl := h21
    refine wo_v rfl (val_assign (v := (.int .i64 y18)) rfl) ?_
    refine wo_nil ?_
    refine wg_seq ?_
    refine wg_region ?_
    refine wo_v rfl (val_move (v := (.int .i64 y18)) rfl) ?_
    refine wo_v rfl (val_neq rfl rfl) ?_
    refine wo_nil ?_
    refine wg_cond rfl (fun e24 => ?_) (fun e24 => ?_)
    · replace hd0 := sel_t e24 hd0; clear e24
      refine wg_seq ?_
      refine wg_region ?_
      refine wo_v rfl (val_move (v := (.int .i64 y18)) rfl) ?_
      refine wo_v rfl (val_assign (v := (.slice none 0 0)) rfl) ?_
      refine wo_v rfl (val_assign (v := (.int .i64 y18)) rfl) ?_
      refine wo_nil ?_
      refine wg_ret ?_
      obtain rfl := Option.some.inj hd0
      refine body_end (D := []) (J := []) (rs := [.tmp 6, .tmp 7]) (vs := [(.slice none 0 0), (.int .i64 y18)]) ((le4.trans le12).trans le23) rfl rfl ⟨rfl, rfl, trivial⟩ ?_
      exact ⟨rfl, ⟨(.slice none 0 0), rfl, sl_nil⟩⟩
    · replace hd0 := sel_f e24 hd0; clear e24
      refine wg_skip ?_
      refine wg_seq ?_
      refine wg_region ?_
      refine wo_loadR rfl ty27 rfl (h2.mono (le12.trans le23)) fun v25 h26 => ?_
      refine wo_v rfl (val_move (v := (.int .i64 s)) rfl) ?_
      refine wo_v rfl (val_move (v := v_w_) rfl) ?_
      replace hd0 := bd_some hd0; obtain ⟨y27, c28, hd0⟩ := hd0
      refine wo_callP rfl en44 rfl (c_machines_run h26 (h_w_.mono ((le4.trans le12).trans le23)) c28) fun v29 R31 le32 h30 => ?_
      obtain ⟨v33, rfl, h34⟩ := h30
      refine wo_v rfl (val_move (v := (.tuple #[v33, (.int .i64 y27.2)])) rfl) ?_
      refine wo_v rfl (val_extract rfl rfl) ?_
      refine wo_v rfl (val_extract rfl rfl) ?_
      refine wo_v rfl (val_assign (v := v33) rfl) ?_
      refine wo_v rfl (val_assign (v := (.int .i64 y27.2)) rfl) ?_
      refine wo_nil ?_
      refine wg_seq ?_
      refine wg_region ?_
      refine wo_v rfl (val_move (v := v33) rfl) ?_
      refine wo_v rfl (val_assign (v := v33) rfl) ?_
      refine wo_v rfl (val_assign (v := (.int .i64 0)) rfl) ?_
      refine wo_nil ?_
      refine wg_ret ?_
      obtain rfl := Option.some.inj hd0
      refine body_end (D := []) (J := []) (rs := [.tmp 6, .tmp 7]) (vs := [v33, (.int .i64 0)]) (((le4.trans le12).trans le23).trans le32) rfl rfl ⟨rfl, rfl, trivial⟩ ?_
      exact ⟨rfl, ⟨v33, rfl, h34⟩⟩
theorem en21 : Enters Try.prog 21 := enters_of Try.func21 rfl (by kernel_rfl)
theorem c_machines_After {N : Nat} {R : RH} {m : Mach} {v_m : Value} (h_m : VRep (kMach false false) R v_m m) {s : Int} {w_ : (List Int)} {v_w_ : Value} (h_w_ : VRep (tSl false (tInt .i64)) R v_w_ w_) {r : Int × Int} (hd0 : machines_After N m s w_ = some r) : CallP Try.prog 22 #[v_m, (.int .i64 s), v_w_] R (fun v R' => v = .tuple #[(.int .i64 r.1), (.int .i64 r.2)]) := by
  refine callP_of_wg (args := [v_m, (.int .i64 s), v_w_]) Try.func22 rfl rfl fun A => ?_
  rw [machines_After] at hd0
  refine wg_seq ?_
  refine wg_region ?_
  refine wo_boxR (T := (kMach false false)) rfl rfl h_m fun v1 R3 le4 h2 => ?_
  refine wo_v rfl (val_assign (v := (.int .i64 0)) rfl) ?_
  refine wo_v rfl (val_assign (v := (.int .i64 0)) rfl) ?_
  refine wo_nil ?_
  refine wg_seq ?_
  refine wg_seq ?_
  refine wg_region ?_
  refine wo_loadR rfl ty27 rfl h2 fun v5 h6 => ?_
  refine wo_v rfl (val_move (v := (.int .i64 s)) rfl) ?_
  replace hd0 := bd_some hd0; obtain ⟨y7, c8, hd0⟩ := hd0
  refine wo_callP rfl en42 rfl (c_machines_state h6 c8) fun v9 R11 le12 h10 => ?_
  obtain rfl := h10
  refine wo_v rfl (val_assign (v := (.int .i64 y7)) rfl) ?_
  refine wo_nil ?_
  refine wg_seq ?_
  refine wg_region ?_
  refine wo_v rfl (val_move (v := (.int .i64 y7)) rfl) ?_
  refine wo_v rfl (val_neq rfl rfl) ?_
  refine wo_nil ?_
  refine wg_cond rfl (fun e13 => ?_) (fun e13 => ?_)
  · replace hd0 := sel_t e13 hd0; clear e13
    refine wg_seq ?_
    refine wg_region ?_
    refine wo_v rfl (val_move (v := (.int .i64 y7)) rfl) ?_
    refine wo_v rfl (val_assign (v := (.int .i64 0)) rfl) ?_
    refine wo_v rfl (val_assign (v := (.int .i64 y7)) rfl) ?_
    refine wo_nil ?_
    refine wg_ret ?_
    obtain rfl := Option.some.inj hd0
    refine body_end (D := []) (J := []) (rs := [.tmp 6, .tmp 7]) (vs := [(.int .i64 0), (.int .i64 y7)]) (le4.trans le12) rfl rfl ⟨rfl, rfl, trivial⟩ ?_
    exact ⟨rfl, rfl⟩
  · replace hd0 := sel_f e13 hd0; clear e13
    refine wg_skip ?_
    refine wg_seq ?_
    refine wg_seq ?_
    refine wg_region ?_
    refine wo_v rfl (val_move (v := v_w_) rfl) ?_
    refine wo_fieldR rfl fd27_0 pt_Mach0 rfl (h2.mono le12) fun v14 h15 => ?_
    refine wo_loadR rfl ty3 rfl h15 fun v16 h17 => ?_
    obtain rfl := vrep_int.1 h17
    replace hd0 := bd_some hd0; obtain ⟨y18, c19, hd0⟩ := hd0
    refine wo_callP rfl en43 rfl (c_words_Check (h_w_.mono (le4.trans le12)) c19) fun v20 R22 le23 h21 => ?_
    obtain rfl := h21
    refine wo_v rfl (val_assign (v := (.int .i64 y18)) rfl) ?_
    refine wo_nil ?_
    refine wg_seq ?_
    refine wg_region ?_
    refine wo_v rfl (val_move (v := (.int .i64 y18)) rfl) ?_
    refine wo_v rfl (val_neq rfl rfl) ?_
    refine wo_nil ?_
    refine wg_cond rfl (fun e24 => ?_) (fun e24 => ?_)
    · replace hd0 := sel_t e24 hd0; clear e24
      refine wg_seq ?_
      refine wg_region ?_
      refine wo_v rfl (val_move (v := (.int .i64 y18)) rfl) ?_
      refine wo_v rfl (val_assign (v := (.int .i64 0)) rfl) ?_
      refine wo_v rfl (val_assign (v := (.int .i64 y18)) rfl) ?_
      refine wo_nil ?_
      refine wg_ret ?_
      obtain rfl := Option.some.inj hd0
      refine body_end (D := []) (J := []) (rs := [.tmp 6, .tmp 7]) (vs := [(.int .i64 0), (.int .i64 y18)]) ((le4.trans le12).trans le23) rfl rfl ⟨rfl, rfl, trivial⟩ ?_
      exact ⟨rfl, rfl⟩
    · replace hd0 := sel_f e24 hd0; clear e24
      refine wg_skip ?_
      refine wg_seq ?_
      refine wg_region ?_
      refine wo_loadR rfl ty27 rfl (h2.mono (le12.trans le23)) fun v25 h26 => ?_
      refine wo_v rfl (val_move (v := (.int .i64 s)) rfl) ?_
      refine wo_v rfl (val_move (v := v_w_) rfl) ?_
      replace hd0 := bd_some hd0; obtain ⟨y27, c28, hd0⟩ := hd0
      refine wo_callP rfl en44 rfl (c_machines_run h26 (h_w_.mono ((le4.trans le12).trans le23)) c28) fun v29 R31 le32 h30 => ?_
      obtain ⟨v33, rfl, h34⟩ := h30
      refine wo_v rfl (val_move (v := (.tuple #[v33, (.int .i64 y27.2)])) rfl) ?_
      refine wo_v rfl (val_extract rfl rfl) ?_
      refine wo_v rfl (val_extract rfl rfl) ?_
      refine wo_v rfl (val_assign (v := v33) rfl) ?_
      refine wo_v rfl (val_assign (v := (.int .i64 y27.2)) rfl) ?_
      refine wo_nil ?_
      refine wg_seq ?_
      refine wg_region ?_
      refine wo_v rfl (val_move (v := (.int .i64 y27.2)) rfl) ?_
      refine wo_v rfl (val_assign (v := (.int .i64 y27.2)) rfl) ?_
      refine wo_v rfl (val_assign (v := (.int .i64 0)) rfl) ?_
      refine wo_nil ?_
      refine wg_ret ?_
      obtain rfl := Option.some.inj hd0
      refine body_end (D := []) (J := []) (rs := [.tmp 6, .tmp 7]) (vs := [(.int .i64 y27.2), (.int .i64 0)]) (((le4.trans le12).trans le23).trans le32) rfl rfl ⟨rfl, rfl, trivial⟩ ?_
      exact ⟨rfl, rfl⟩
theorem en22 : Enters Try.prog 22 := enters_of Try.func22 rfl (by kernel_rfl)
theorem c_machines_Step {N : Nat} {R : RH} {m : Mach} {v_m : Value} (h_m : VRep (kMach false false) R v_m m) {s : Int} {i : Int} {r : Edge × Int} (hd0 : machines_Step N m s i = some r) : CallP Try.prog 26 #[v_m, (.int .i64 s), (.int .i64 i)] R (fun v R' => v = .tuple #[(enc_Edge r.1), (.int .i64 r.2)]) := by
  refine callP_of_wg (args := [v_m, (.int .i64 s), (.int .i64 i)]) Try.func26 rfl rfl fun A => ?_
  rw [machines_Step] at hd0
  refine wg_seq ?_
  refine wg_region ?_
  refine wo_boxR (T := (kMach false false)) rfl rfl h_m fun v1 R3 le4 h2 => ?_
  refine wo_alloc rfl za40 fun b5 => ?_
  refine wo_v rfl (val_assign (v := (.int .i64 0)) rfl) ?_
  refine wo_nil ?_
  refine wg_seq ?_
  refine wg_seq ?_
  refine wg_region ?_
  refine wo_loadR rfl ty27 rfl h2 fun v7 h8 => ?_
  refine wo_v rfl (val_move (v := (.int .i64 s)) rfl) ?_
  replace hd0 := bd_some hd0; obtain ⟨y9, c10, hd0⟩ := hd0
  refine wo_callP rfl en42 rfl (c_machines_state h8 c10) fun v11 R13 le14 h12 => ?_
  obtain rfl := h12
  refine wo_v rfl (val_assign (v := (.int .i64 y9)) rfl) ?_
  refine wo_nil ?_
  refine wg_seq ?_
  refine wg_region ?_
  refine wo_v rfl (val_move (v := (.int .i64 y9)) rfl) ?_
  refine wo_v rfl (val_neq rfl rfl) ?_
  refine wo_nil ?_
  refine wg_cond rfl (fun e15 => ?_) (fun e15 => ?_)
  · replace hd0 := sel_t e15 hd0; clear e15
    refine wg_seq ?_
    refine wg_region ?_
    refine wo_v rfl (val_buildL (ps := []) (v := (.agg #[(.int .i64 0), (.int .i64 0)])) rfl (fun w => by kernel_rfl)) ?_
    refine wo_v rfl (val_move (v := (.int .i64 y9)) rfl) ?_
    refine wo_store (i := 0) (vs := [(.int .i64 0), (.int .i64 0)]) sz40 rfl rfl rfl rfl rfl rfl (one_cons rfl (one_cons rfl one_nil)) ?_
    refine wo_v rfl (val_assign (v := (.int .i64 y9)) rfl) ?_
    refine wo_nil ?_
    refine wg_ret ?_
    obtain rfl := Option.some.inj hd0
    refine body_end (D := []) (J := [box b5 [(.int .i64 0), (.int .i64 0)] 40]) (rs := [.cell 6 40, .tmp 7]) (vs := [(.agg #[(.int .i64 0), (.int .i64 0)]), (.int .i64 y9)]) (le4.trans le14) rfl rfl ⟨⟨_, rfl, fun w hh => run_cellA (i := 0) hh rfl rfl ag40 sz40 rfl rfl⟩, rfl, trivial⟩ ?_
    exact ⟨rfl, rfl⟩
  · replace hd0 := sel_f e15 hd0; clear e15
    refine wg_skip ?_
    refine wg_seq ?_
    refine wg_seq ?_
    refine wg_guarded 8 [] [phX (.int .i64 i), phX (.bool (decide (i < 0))), phX (.bool (decide (i < 0))), phG (true && ((decide (i < 0)) == false)) (phX (.int .i64 i)), phG (true && ((decide (i < 0)) == false)) (phP (tInt .i64) m.inputs), phG (true && ((decide (i < 0)) == false)) (phX (.int .i64 m.inputs)), phG (true && ((decide (i < 0)) == false)) (phX (.bool (decide (m.inputs ≤ i)))), phX (.bool ((decide (i < 0)) || (decide (m.inputs ≤ i))))] (by kernel_rfl) (by kernel_rfl) (monoOk_of ⟨mono_x, mono_x, mono_x, (mono_g mono_x), (mono_g mono_p), (mono_g mono_x), (mono_g mono_x), mono_x, trivial⟩) ⟨?_, ?_, ?_, ?_, ?_, ?_, ?_, ?_, trivial⟩ fun R16 le17 => ?_
    · intro l R0q hle ha hd
      have a2 : l 2 = (.int .i64 i) := ha 2 rfl
      exact gstep_plain rfl rfl rfl (ph_val (val_move a2))
    · intro l R1q hle ha hd
      obtain ⟨d0, _⟩ := hd
      have f16 : l 16 = (.int .i64 i) := d0 rfl
      exact gstep_plain rfl rfl rfl (ph_val (val_lss f16 rfl))
    · intro l R2q hle ha hd
      obtain ⟨d0, _⟩ := hd
      have f17 : l 17 = (.bool (decide (i < 0))) := d0 rfl
      exact gstep_plain rfl rfl rfl (ph_val (val_move f17))
    · intro l R3q hle ha hd
      obtain ⟨d0, _⟩ := hd
      have a2 : l 2 = (.int .i64 i) := ha 2 rfl
      exact gstep_guard (Gj := true) (Bj := decide (i < 0)) rfl rfl rfl (gtrue (d0 rfl)) rfl (fun hG hB => ph_val (val_move a2))
    · intro l R4q hle ha hd
      obtain ⟨d0, _⟩ := hd
      have a3 : l 3 = v1 := ha 3 rfl
      exact gstep_guard (Gj := true) (Bj := decide (i < 0)) rfl rfl rfl (gtrue (d0 rfl)) rfl (fun hG hB => ph_fieldR fd27_0 pt_Mach0 a3 ((h2.mono le14).mono hle))
    · intro l R5q hle ha hd
      obtain ⟨d0, d1, _⟩ := hd
      have f20g : phG (true && ((decide (i < 0)) == false)) (phP (tInt .i64) m.inputs) (l 20) R5q := d0 rfl
      exact gstep_guard (Gj := true) (Bj := decide (i < 0)) rfl rfl rfl (gtrue (d1 rfl)) rfl (fun hG hB => ph_exact (ph_loadR ty3 rfl (f20g.1 (gandT rfl hB))) (fun _ _ h => vrep_int.1 h))
    · intro l R6q hle ha hd
      obtain ⟨d0, d1, d2, _⟩ := hd
      have f19g : phG (true && ((decide (i < 0)) == false)) (phX (.int .i64 i)) (l 19) R6q := d0 rfl
      have f21g : phG (true && ((decide (i < 0)) == false)) (phX (.int .i64 m.inputs)) (l 21) R6q := d1 rfl
      exact gstep_guard (Gj := true) (Bj := decide (i < 0)) rfl rfl rfl (gtrue (d2 rfl)) rfl (fun hG hB => ph_val (val_geq (show l 19 = (.int .i64 i) from f19g.1 (gandT rfl hB)) (show l 21 = (.int .i64 m.inputs) from f21g.1 (gandT rfl hB))))
    · intro l R7q hle ha hd
      obtain ⟨d0, d1, _⟩ := hd
      have f18 : l 18 = (.bool (decide (i < 0))) := d0 rfl
      have f22g : phG (true && ((decide (i < 0)) == false)) (phX (.bool (decide (m.inputs ≤ i)))) (l 22) R7q := d1 rfl
      exact gstep_plain rfl rfl rfl (ph_val (val_or f18 rfl (fun hb => (show l 22 = (.bool (decide (m.inputs ≤ i))) from f22g.1 (gandT rfl hb)))))
    intro v18 h19
    intro v20 h21
    intro v22 h23
    intro v24 h25
    intro v26 h27
    intro v28 h29
    intro v30 h31
    intro v32 h33
    obtain rfl := Eq.symm h19
    obtain rfl := Eq.symm h21
    obtain rfl := Eq.symm h23
    obtain rfl := Eq.symm h33
    refine wo_nil ?_
    refine wg_cond rfl (fun e34 => ?_) (fun e34 => ?_)
    · replace hd0 := sel_t e34 hd0; clear e34
      refine wg_seq ?_
      refine wg_region ?_
      refine wo_v rfl (val_buildL (ps := []) (v := (.agg #[(.int .i64 0), (.int .i64 0)])) rfl (fun w => by kernel_rfl)) ?_
      refine wo_store (i := 0) (vs := [(.int .i64 0), (.int .i64 0)]) sz40 rfl rfl rfl rfl rfl rfl (one_cons rfl (one_cons rfl one_nil)) ?_
      refine wo_v rfl (val_assign (v := (.int .i64 1)) rfl) ?_
      refine wo_nil ?_
      refine wg_ret ?_
      obtain rfl := Option.some.inj hd0
      refine body_end (D := []) (J := [box b5 [(.int .i64 0), (.int .i64 0)] 40]) (rs := [.cell 6 40, .tmp 7]) (vs := [(.agg #[(.int .i64 0), (.int .i64 0)]), (.int .i64 1)]) ((le4.trans le14).trans le17) rfl rfl ⟨⟨_, rfl, fun w hh => run_cellA (i := 0) hh rfl rfl ag40 sz40 rfl rfl⟩, rfl, trivial⟩ ?_
      exact ⟨rfl, rfl⟩
    · replace hd0 := sel_f e34 hd0; clear e34
      refine wg_skip ?_
      refine wg_seq ?_
      refine wg_region ?_
      refine wo_fieldR rfl fd27_2 pt_Mach2 rfl (h2.mono (le14.trans le17)) fun v35 h36 => ?_
      refine wo_loadR rfl ty25 rfl h36 fun v37 h38 => ?_
      refine wo_v rfl (val_move (v := (.int .i64 s)) rfl) ?_
      have g39 := (gd_some hd0).1; replace hd0 := (gd_some hd0).2
      refine wo_indexR (i := s.toNat) rfl sl25 rfl (sl_s h38) (idx_nonneg rfl g39.1) (okI_lt g39) fun v40 h41 => ?_
      refine wo_loadR rfl ty41 rfl h41 fun v42 h43 => ?_
      refine wo_v rfl (val_move (v := (.int .i64 i)) rfl) ?_
      have g44 := (gd_some hd0).1; replace hd0 := (gd_some hd0).2
      refine wo_indexR (i := i.toNat) rfl sl41 rfl (sl_s h43) (idx_nonneg rfl g44.1) (okI_lt g44) fun v45 h46 => ?_
      refine wo_loadR rfl ty40 rfl h46 fun v47 h48 => ?_
      obtain rfl := vrep_Edge.1 h48
      refine wo_store (i := 0) (vs := [(.int .i64 ((ix (ix m.rows s) i).to)), (.int .i64 ((ix (ix m.rows s) i).out))]) sz40 rfl rfl rfl rfl rfl rfl (one_cons rfl (one_cons rfl one_nil)) ?_
      refine wo_v rfl (val_assign (v := (.int .i64 0)) rfl) ?_
      refine wo_nil ?_
      refine wg_ret ?_
      obtain rfl := Option.some.inj hd0
      refine body_end (D := []) (J := [box b5 [(.int .i64 ((ix (ix m.rows s) i).to)), (.int .i64 ((ix (ix m.rows s) i).out))] 40]) (rs := [.cell 6 40, .tmp 7]) (vs := [(.agg #[(.int .i64 ((ix (ix m.rows s) i).to)), (.int .i64 ((ix (ix m.rows s) i).out))]), (.int .i64 0)]) ((le4.trans le14).trans le17) rfl rfl ⟨⟨_, rfl, fun w hh => run_cellA (i := 0) hh rfl rfl ag40 sz40 rfl rfl⟩, rfl, trivial⟩ ?_
      exact ⟨rfl, rfl⟩
theorem en26 : Enters Try.prog 26 := enters_of Try.func26 rfl (by kernel_rfl)
theorem c_slices_Clone_api_Edge {N : Nat} {R : RH} {s : (List Edge)} {v_s : Value} (h_s : VRep (tSl false kEdge) R v_s s) {r : (List Edge)} (hd0 : slices_Clone_api_Edge N s = some r) : CallP Try.prog 53 #[v_s] R (fun v R' => VRep (tSl false kEdge) R' v r) := by
  refine callP_of_wg (args := [v_s]) Try.func53 rfl rfl fun A => ?_
  rw [slices_Clone_api_Edge] at hd0
  refine wg_seq ?_
  refine wg_region ?_
  refine wo_v rfl (val_assign (v := (.slice none 0 0)) rfl) ?_
  refine wo_nil ?_
  refine wg_seq ?_
  refine wg_seq ?_
  refine wg_region ?_
  refine wo_v rfl (val_move (v := v_s) rfl) ?_
  refine wo_v rfl (val_eqNil Try.underlying41 rfl rfl (isS_vrep (sl_s h_s))) ?_
  refine wo_nil ?_
  refine wg_cond rfl (fun e1 => ?_) (fun e1 => ?_)
  ·
    obtain rfl := nilS_nil (sl_s h_s) e1
    replace hd0 : some ([] : (List Edge)) = some r := (gd_some hd0).2
    refine wg_seq ?_
    refine wg_region ?_
    refine wo_v rfl (val_assign (v := (.slice none 0 0)) rfl) ?_
    refine wo_nil ?_
    refine wg_ret ?_
    obtain rfl := Option.some.inj hd0
    refine body_end (D := []) (J := []) (rs := [.tmp 2]) (vs := [(.slice none 0 0)]) (RH.le.refl _) rfl rfl ⟨rfl, trivial⟩ ?_
    exact ⟨rfl, sl_nil⟩
  ·
    refine wg_skip ?_
    refine wg_seq ?_
    refine wg_region ?_
    refine wo_lit (T := kEdge) (X := ([] : List Edge)) (ps := []) (css := []) rfl Try.underlying41 zo40 rfl rfl (lit_reps trivial) rfl rfl (by decide) fun v2 f3 cap4 h5 => ?_
    refine wo_v rfl (val_move (v := v_s) rfl) ?_
    have g7 := (gd_some hd0).1; replace hd0 := (gd_some hd0).2
    refine wo_append (i := 0) (X := ([] : List Edge)) (Y := s) rfl Try.underlying41 zo40 rfl rfl rfl h5 (sl_s h_s) g7.1 g7.2 fun v8 f9 h10 => ?_
    refine wo_v rfl (val_assign (v := v8) rfl) ?_
    refine wo_nil ?_
    refine wg_freeze (i := 0) rfl h10 fun R11 le12 h13 => ?_
    have h14 : VRep (tSl false kEdge) R11 v8 (([] : List Edge) ++ s) := (sl_f h13)
    refine wg_ret ?_
    obtain rfl := Option.some.inj hd0
    refine body_end (D := []) (J := []) (rs := [.tmp 2]) (vs := [v8]) le12 rfl rfl ⟨rfl, trivial⟩ ?_
    exact ⟨rfl, h14⟩
theorem c_slices_Clip_api_Edge {N : Nat} {R : RH} {s : (List Edge)} {v_s : Value} (h_s : VRep (tSl false kEdge) R v_s s) {r : (List Edge)} (hd0 : slices_Clip_api_Edge N s = some r) : CallP Try.prog 52 #[v_s] R (fun v R' => VRep (tSl true kEdge) R' v r) := by
  refine callP_of_wg (args := [v_s]) Try.func52 rfl rfl fun A => ?_
  rw [slices_Clip_api_Edge] at hd0
  refine wg_seq ?_
  refine wg_region ?_
  refine wo_v rfl (val_assign (v := (.slice none 0 0)) rfl) ?_
  refine wo_nil ?_
  refine wg_seq ?_
  refine wg_region ?_
  refine wo_v rfl (val_move (v := v_s) rfl) ?_
  refine wo_v rfl (val_move (v := v_s) rfl) ?_
  refine wo_v rfl (val_lenR rfl Try.underlying41 rfl (sl_s h_s)) ?_
  refine wo_v rfl (val_move (v := v_s) rfl) ?_
  refine wo_v rfl (val_lenR rfl Try.underlying41 rfl (sl_s h_s)) ?_
  have g4 := (gd_some hd0).1; replace hd0 := (gd_some hd0).2
  refine wo_sliceR (v := v_s) (lo := (0 : Int).toNat) (hi := (↑s.length : Int).toNat) (mx := (↑s.length : Int).toNat) rfl sl41 rfl (sl_s h_s) (.inl ⟨rfl, rfl⟩) (.inr ⟨_, congrArg some (idx_nonneg rfl (okS_0 g4))⟩) (.inr ⟨_, congrArg some (idx_nonneg rfl (okS_0 g4))⟩) (okS_1 g4) (okS_2 g4) (Nat.le_refl _) (Nat.le_trans (okS_2 g4) (capR (sl_s h_s))) (X' := (cut s 0 (↑s.length : Int))) rfl fun v1 h2 cap3 => ?_
  have h5 : VRep (tSl true kEdge) R v1 (cut s 0 (↑s.length : Int)) := sl_t h2 (cap3.trans (cut_len g4).symm)
  refine wo_v rfl (val_assign (v := v1) rfl) ?_
  refine wo_nil ?_
  refine wg_ret ?_
  obtain rfl := Option.some.inj hd0
  refine body_end (D := []) (J := []) (rs := [.tmp 2]) (vs := [v1]) (RH.le.refl _) rfl rfl ⟨rfl, trivial⟩ ?_
  exact ⟨rfl, h5⟩
theorem en53 : Enters Try.prog 53 := enters_of Try.func53 rfl (by kernel_rfl)
theorem en52 : Enters Try.prog 52 := enters_of Try.func52 rfl (by kernel_rfl)
theorem zh41 : ZeroOk Try.prog 41 tHdr (.slice none 0 0) 24 := by
  obtain ⟨i, zv, hi, hz, hs, hb, hv⟩ := info_zero (P := Try.prog) (e := 41) (zv := (.slice none 0 0)) (k := 1) (b := 24) (by kernel_rfl)
  exact ⟨i, zv, hi, hz, hs, hb, fun R => by subst hv; exact ⟨rfl, rfl⟩⟩
theorem c_slices_Clip_api_Edge_o {N : Nat} {R : RH} {s : List Edge} {v_s : Value} {f_s : Frag} (h_s : ORep kEdge R f_s v_s s) {r : (List Edge)} (hd0 : slices_Clip_api_Edge_o N s = some r) : CallG Try.prog 52 #[v_s] R [f_s] (fun v R' O' => ∃ u0_0 g0_0, v = u0_0 ∧ O' = [g0_0] ∧ ORep kEdge R' g0_0 u0_0 r ∧ capOf u0_0 = r.length) := by
  refine callG_of_wg (args := [v_s]) Try.func52 rfl rfl fun A => ?_
  rw [slices_Clip_api_Edge_o] at hd0
  refine wg_seq ?_
  refine wg_region ?_
  refine wo_v rfl (val_assign (v := (.slice none 0 0)) rfl) ?_
  refine wo_nil ?_
  refine wg_seq ?_
  refine wg_region ?_
  refine wo_v rfl (val_move (v := v_s) rfl) ?_
  refine wo_v rfl (val_move (v := v_s) rfl) ?_
  refine wo_v rfl (val_lenO rfl Try.underlying41 rfl h_s) ?_
  refine wo_v rfl (val_move (v := v_s) rfl) ?_
  refine wo_v rfl (val_lenO rfl Try.underlying41 rfl h_s) ?_
  have g4 := (gd_some hd0).1; replace hd0 := (gd_some hd0).2
  refine wo_sliceQ (v := v_s) (lo := (0 : Int).toNat) (hi := (↑s.length : Int).toNat) (mx := (↑s.length : Int).toNat) rfl sl41 rfl h_s (.inl ⟨rfl, rfl⟩) (.inr ⟨_, congrArg some (idx_nonneg rfl (okS_0 g4))⟩) (.inr ⟨_, congrArg some (idx_nonneg rfl (okS_0 g4))⟩) (okS_1 g4) (okS_2 g4) (Nat.le_refl _) (Nat.le_trans (okS_2 g4) (orep_len h_s)) fun v1 h2 cap3 => ?_
  refine wo_v rfl (val_assign (v := v1) rfl) ?_
  refine wo_nil ?_
  refine wg_ret ?_
  obtain rfl := Option.some.inj hd0
  refine body_endG (D := []) (J := []) (O' := [f_s]) (rs := [.tmp 2]) (vs := [v1]) (RH.le.refl _) ((pk 0 rfl (List.Perm.refl _))) rfl ⟨rfl, trivial⟩ ?_
  exact ⟨v1, f_s, rfl, rfl, h2, (cap3.trans (cut_len g4).symm)⟩
theorem c_slices_Clone_api_Edge_o {N : Nat} {R : RH} {s : (List Edge)} {v_s : Value} (h_s : VRep (tSl false kEdge) R v_s s) {r : (List Edge)} (hd0 : slices_Clone_api_Edge_o N s = some r) : CallG Try.prog 53 #[v_s] R [] (fun v R' O' => ∃ u0_0 g0_0, v = u0_0 ∧ O' = [g0_0] ∧ ORep kEdge R' g0_0 u0_0 r) := by
  refine callG_of_wg (args := [v_s]) Try.func53 rfl rfl fun A => ?_
  rw [slices_Clone_api_Edge_o] at hd0
  refine wg_seq ?_
  refine wg_region ?_
  refine wo_v rfl (val_assign (v := (.slice none 0 0)) rfl) ?_
  refine wo_nil ?_
  refine wg_seq ?_
  refine wg_seq ?_
  refine wg_region ?_
  refine wo_v rfl (val_move (v := v_s) rfl) ?_
  refine wo_v rfl (val_eqNil Try.underlying41 rfl rfl (isS_vrep (sl_s h_s))) ?_
  refine wo_nil ?_
  refine wg_cond rfl (fun e1 => ?_) (fun e1 => ?_)
  ·
    obtain rfl := nilS_nil (sl_s h_s) e1
    replace hd0 : some ([] : (List Edge)) = some r := (gd_some hd0).2
    refine wg_seq ?_
    refine wg_region ?_
    refine wo_v rfl (val_assign (v := (.slice none 0 0)) rfl) ?_
    refine wo_nil ?_
    refine wg_emp ?_
    refine wg_ret ?_
    obtain rfl := Option.some.inj hd0
    refine body_endG (D := []) (J := []) (O' := [emp]) (rs := [.tmp 2]) (vs := [(.slice none 0 0)]) (RH.le.refl _) ((pk 0 rfl (List.Perm.refl _))) rfl ⟨rfl, trivial⟩ ?_
    exact ⟨(.slice none 0 0), emp, rfl, rfl, (orep_emp (T := kEdge))⟩
  ·
    refine wg_skip ?_
    refine wg_seq ?_
    refine wg_region ?_
    refine wo_lit (T := kEdge) (X := ([] : List Edge)) (ps := []) (css := []) rfl Try.underlying41 zo40 rfl rfl (lit_reps trivial) rfl rfl (by decide) fun v3 f4 cap5 h6 => ?_
    refine wo_v rfl (val_move (v := v_s) rfl) ?_
    have g8 := (gd_some hd0).1; replace hd0 := (gd_some hd0).2
    refine wo_append (i := 0) (X := ([] : List Edge)) (Y := s) rfl Try.underlying41 zo40 rfl rfl rfl h6 (sl_s h_s) g8.1 g8.2 fun v9 f10 h11 => ?_
    refine wo_v rfl (val_assign (v := v9) rfl) ?_
    refine wo_nil ?_
    refine wg_ret ?_
    obtain rfl := Option.some.inj hd0
    refine body_endG (D := []) (J := []) (O' := [f10]) (rs := [.tmp 2]) (vs := [v9]) (RH.le.refl _) ((pk 0 rfl (List.Perm.refl _))) rfl ⟨rfl, trivial⟩ ?_
    exact ⟨v9, f10, rfl, rfl, h11⟩
theorem c_machines_With {N : Nat} {R : RH} {m : Mach} {v_m : Value} (h_m : VRep (kMach false false) R v_m m) {s : Int} {i : Int} {x : Edge} {r : Mach × Int} (hd0 : machines_With N m s i x = some r) : CallP Try.prog 33 #[v_m, (.int .i64 s), (.int .i64 i), (enc_Edge x)] R (fun v R' => ∃ u0, v = .tuple #[u0, (.int .i64 r.2)] ∧ VRep (kMach true true) R' u0 r.1) := by
  refine callP_of_wg (args := [v_m, (.int .i64 s), (.int .i64 i), (enc_Edge x)]) Try.func33 rfl rfl fun A => ?_
  rw [machines_With] at hd0
  refine wg_seq ?_
  refine wg_region ?_
  refine wo_boxR (T := (kMach false false)) rfl rfl h_m fun v1 R3 le4 h2 => ?_
  refine wo_boxR (T := kEdge) rfl rfl (vrep_Edge.2 rfl) fun v5 R7 le8 h6 => ?_
  refine wo_alloc rfl za27 fun b9 => ?_
  refine wo_v rfl (val_assign (v := (.int .i64 0)) rfl) ?_
  refine wo_nil ?_
  refine wg_seq ?_
  refine wg_seq ?_
  refine wg_region ?_
  refine wo_loadR rfl ty27 rfl (h2.mono le8) fun v11 h12 => ?_
  refine wo_v rfl (val_move (v := (.int .i64 s)) rfl) ?_
  replace hd0 := bd_some hd0; obtain ⟨y13, c14, hd0⟩ := hd0
  refine wo_callP rfl en42 rfl (c_machines_state h12 c14) fun v15 R17 le18 h16 => ?_
  obtain rfl := h16
  refine wo_v rfl (val_assign (v := (.int .i64 y13)) rfl) ?_
  refine wo_nil ?_
  refine wg_seq ?_
  refine wg_region ?_
  refine wo_v rfl (val_move (v := (.int .i64 y13)) rfl) ?_
  refine wo_v rfl (val_neq rfl rfl) ?_
  refine wo_nil ?_
  refine wg_cond rfl (fun e19 => ?_) (fun e19 => ?_)
  · replace hd0 := sel_t e19 hd0; clear e19
    refine wg_seq ?_
    refine wg_region ?_
    refine wo_v rfl (val_buildL (ps := []) (v := (.agg #[(.int .i64 0), (.int .i64 0), (.slice none 0 0)])) rfl (fun w => by kernel_rfl)) ?_
    refine wo_v rfl (val_move (v := (.int .i64 y13)) rfl) ?_
    refine wo_store (i := 0) (vs := [(.int .i64 0), (.int .i64 0), (.slice none 0 0)]) sz27 rfl rfl rfl rfl rfl rfl (one_cons rfl (one_cons rfl (one_cons rfl one_nil))) ?_
    refine wo_v rfl (val_assign (v := (.int .i64 y13)) rfl) ?_
    refine wo_nil ?_
    refine wg_ret ?_
    obtain rfl := Option.some.inj hd0
    refine body_end (D := []) (J := [box b9 [(.int .i64 0), (.int .i64 0), (.slice none 0 0)] 27]) (rs := [.cell 8 27, .tmp 9]) (vs := [(.agg #[(.int .i64 0), (.int .i64 0), (.slice none 0 0)]), (.int .i64 y13)]) ((le4.trans le8).trans le18) rfl rfl ⟨⟨_, rfl, fun w hh => run_cellA (i := 0) hh rfl rfl ag27 sz27 rfl rfl⟩, rfl, trivial⟩ ?_
    exact ⟨rfl, ⟨(.agg #[(.int .i64 0), (.int .i64 0), (.slice none 0 0)]), rfl, (⟨_, ⟨_, _, rfl, rfl, ⟨_, _, rfl, rfl, (rep_one rfl sl_nil)⟩⟩, rfl⟩ : VRep (kMach true true) _ _ (⟨0, 0, []⟩ : Mach))⟩⟩
  · replace hd0 := sel_f e19 hd0; clear e19
    refine wg_skip ?_
    refine wg_seq ?_
    refine wg_seq ?_
    replace hd0 := bd_some hd0; obtain ⟨y20, c21, hd0⟩ := hd0
    refine wg_guarded 14 [] [phX (.int .i64 i), phX (.bool (decide (i < 0))), phX (.bool (decide (i < 0))), phG (true && ((decide (i < 0)) == false)) (phX (.int .i64 i)), phG (true && ((decide (i < 0)) == false)) (phP (tInt .i64) m.inputs), phG (true && ((decide (i < 0)) == false)) (phX (.int .i64 m.inputs)), phG (true && ((decide (i < 0)) == false)) (phX (.bool (decide (m.inputs ≤ i)))), phX (.bool ((decide (i < 0)) || (decide (m.inputs ≤ i)))), phX (.bool ((decide (i < 0)) || (decide (m.inputs ≤ i)))), phG (true && (((decide (i < 0)) || (decide (m.inputs ≤ i))) == false)) (phR (kMach false false) m), phG (true && (((decide (i < 0)) || (decide (m.inputs ≤ i))) == false)) (phX (enc_Edge x)), phG (true && (((decide (i < 0)) || (decide (m.inputs ≤ i))) == false)) (phX (.bool (y20.getD default))), phG (true && (((decide (i < 0)) || (decide (m.inputs ≤ i))) == false)) (phX (.bool (!(y20.getD default)))), phX (.bool (((decide (i < 0)) || (decide (m.inputs ≤ i))) || (!(y20.getD default))))] (by kernel_rfl) (by kernel_rfl) (monoOk_of ⟨mono_x, mono_x, mono_x, (mono_g mono_x), (mono_g mono_p), (mono_g mono_x), (mono_g mono_x), mono_x, mono_x, (mono_g mono_r), (mono_g mono_x), (mono_g mono_x), (mono_g mono_x), mono_x, trivial⟩) ⟨?_, ?_, ?_, ?_, ?_, ?_, ?_, ?_, ?_, ?_, ?_, ?_, ?_, ?_, trivial⟩ fun R22 le23 => ?_
    · intro l R0q hle ha hd
      have a2 : l 2 = (.int .i64 i) := ha 2 rfl
      exact gstep_plain rfl rfl rfl (ph_val (val_move a2))
    · intro l R1q hle ha hd
      obtain ⟨d0, _⟩ := hd
      have f21 : l 21 = (.int .i64 i) := d0 rfl
      exact gstep_plain rfl rfl rfl (ph_val (val_lss f21 rfl))
    · intro l R2q hle ha hd
      obtain ⟨d0, _⟩ := hd
      have f22 : l 22 = (.bool (decide (i < 0))) := d0 rfl
      exact gstep_plain rfl rfl rfl (ph_val (val_move f22))
    · intro l R3q hle ha hd
      obtain ⟨d0, _⟩ := hd
      have a2 : l 2 = (.int .i64 i) := ha 2 rfl
      exact gstep_guard (Gj := true) (Bj := decide (i < 0)) rfl rfl rfl (gtrue (d0 rfl)) rfl (fun hG hB => ph_val (val_move a2))
    · intro l R4q hle ha hd
      obtain ⟨d0, _⟩ := hd
      have a4 : l 4 = v1 := ha 4 rfl
      exact gstep_guard (Gj := true) (Bj := decide (i < 0)) rfl rfl rfl (gtrue (d0 rfl)) rfl (fun hG hB => ph_fieldR fd27_0 pt_Mach0 a4 ((h2.mono (le8.trans le18)).mono hle))
    · intro l R5q hle ha hd
      obtain ⟨d0, d1, _⟩ := hd
      have f25g : phG (true && ((decide (i < 0)) == false)) (phP (tInt .i64) m.inputs) (l 25) R5q := d0 rfl
      exact gstep_guard (Gj := true) (Bj := decide (i < 0)) rfl rfl rfl (gtrue (d1 rfl)) rfl (fun hG hB => ph_exact (ph_loadR ty3 rfl (f25g.1 (gandT rfl hB))) (fun _ _ h => vrep_int.1 h))
    · intro l R6q hle ha hd
      obtain ⟨d0, d1, d2, _⟩ := hd
      have f24g : phG (true && ((decide (i < 0)) == false)) (phX (.int .i64 i)) (l 24) R6q := d0 rfl
      have f26g : phG (true && ((decide (i < 0)) == false)) (phX (.int .i64 m.inputs)) (l 26) R6q := d1 rfl
      exact gstep_guard (Gj := true) (Bj := decide (i < 0)) rfl rfl rfl (gtrue (d2 rfl)) rfl (fun hG hB => ph_val (val_geq (show l 24 = (.int .i64 i) from f24g.1 (gandT rfl hB)) (show l 26 = (.int .i64 m.inputs) from f26g.1 (gandT rfl hB))))
    · intro l R7q hle ha hd
      obtain ⟨d0, d1, _⟩ := hd
      have f23 : l 23 = (.bool (decide (i < 0))) := d0 rfl
      have f27g : phG (true && ((decide (i < 0)) == false)) (phX (.bool (decide (m.inputs ≤ i)))) (l 27) R7q := d1 rfl
      exact gstep_plain rfl rfl rfl (ph_val (val_or f23 rfl (fun hb => (show l 27 = (.bool (decide (m.inputs ≤ i))) from f27g.1 (gandT rfl hb)))))
    · intro l R8q hle ha hd
      obtain ⟨d0, d1, _⟩ := hd
      have f28 : l 28 = (.bool ((decide (i < 0)) || (decide (m.inputs ≤ i)))) := d0 rfl
      exact gstep_plain rfl rfl rfl (ph_val (val_move f28))
    · intro l R9q hle ha hd
      obtain ⟨d0, _⟩ := hd
      have a4 : l 4 = v1 := ha 4 rfl
      exact gstep_guard (Gj := true) (Bj := (decide (i < 0)) || (decide (m.inputs ≤ i))) rfl rfl rfl (gtrue (d0 rfl)) rfl (fun hG hB => ph_loadR ty27 a4 ((h2.mono (le8.trans le18)).mono hle))
    · intro l R10q hle ha hd
      obtain ⟨d0, _⟩ := hd
      have a7 : l 7 = v5 := ha 7 rfl
      exact gstep_guard (Gj := true) (Bj := (decide (i < 0)) || (decide (m.inputs ≤ i))) rfl rfl rfl (gtrue (d0 rfl)) rfl (fun hG hB => ph_exact (ph_loadR ty40 a7 ((h6.mono le18).mono hle)) (fun _ _ h => vrep_Edge.1 h))
    · intro l R11q hle ha hd
      obtain ⟨d0, d1, d2, d3, _⟩ := hd
      have f30g : phG (true && (((decide (i < 0)) || (decide (m.inputs ≤ i))) == false)) (phR (kMach false false) m) (l 30) R11q := d0 rfl
      have f31g : phG (true && (((decide (i < 0)) || (decide (m.inputs ≤ i))) == false)) (phX (enc_Edge x)) (l 31) R11q := d1 rfl
      exact gstep_guard (Gj := true) (Bj := (decide (i < 0)) || (decide (m.inputs ≤ i))) rfl rfl rfl (gtrue (d2 rfl)) rfl (fun hG hB => ph_callP en49 (by simp only [List.map, ev, (show l 31 = (enc_Edge x) from f31g.1 (gandT rfl hB))] <;> rfl) (c_machines_fits (f30g.1 (gandT rfl hB)) (gop_def c21 (gandT hG hB))) (fun _ _ h => h))
    · intro l R12q hle ha hd
      obtain ⟨d0, d1, _⟩ := hd
      have f32g : phG (true && (((decide (i < 0)) || (decide (m.inputs ≤ i))) == false)) (phX (.bool (y20.getD default))) (l 32) R12q := d0 rfl
      exact gstep_guard (Gj := true) (Bj := (decide (i < 0)) || (decide (m.inputs ≤ i))) rfl rfl rfl (gtrue (d1 rfl)) rfl (fun hG hB => ph_val (val_not (show l 32 = (.bool (y20.getD default)) from f32g.1 (gandT rfl hB))))
    · intro l R13q hle ha hd
      obtain ⟨d0, d1, _⟩ := hd
      have f29 : l 29 = (.bool ((decide (i < 0)) || (decide (m.inputs ≤ i)))) := d0 rfl
      have f33g : phG (true && (((decide (i < 0)) || (decide (m.inputs ≤ i))) == false)) (phX (.bool (!(y20.getD default)))) (l 33) R13q := d1 rfl
      exact gstep_plain rfl rfl rfl (ph_val (val_or f29 rfl (fun hb => (show l 33 = (.bool (!(y20.getD default))) from f33g.1 (gandT rfl hb)))))
    intro v24 h25
    intro v26 h27
    intro v28 h29
    intro v30 h31
    intro v32 h33
    intro v34 h35
    intro v36 h37
    intro v38 h39
    intro v40 h41
    intro v42 h43
    intro v44 h45
    intro v46 h47
    intro v48 h49
    intro v50 h51
    obtain rfl := Eq.symm h25
    obtain rfl := Eq.symm h27
    obtain rfl := Eq.symm h29
    obtain rfl := Eq.symm h39
    obtain rfl := Eq.symm h41
    obtain rfl := Eq.symm h51
    refine wo_nil ?_
    refine wg_cond rfl (fun e52 => ?_) (fun e52 => ?_)
    · replace hd0 := sel_t e52 hd0; clear e52
      refine wg_seq ?_
      refine wg_region ?_
      refine wo_v rfl (val_buildL (ps := []) (v := (.agg #[(.int .i64 0), (.int .i64 0), (.slice none 0 0)])) rfl (fun w => by kernel_rfl)) ?_
      refine wo_store (i := 0) (vs := [(.int .i64 0), (.int .i64 0), (.slice none 0 0)]) sz27 rfl rfl rfl rfl rfl rfl (one_cons rfl (one_cons rfl (one_cons rfl one_nil))) ?_
      refine wo_v rfl (val_assign (v := (.int .i64 1)) rfl) ?_
      refine wo_nil ?_
      refine wg_ret ?_
      obtain rfl := Option.some.inj hd0
      refine body_end (D := []) (J := [box b9 [(.int .i64 0), (.int .i64 0), (.slice none 0 0)] 27]) (rs := [.cell 8 27, .tmp 9]) (vs := [(.agg #[(.int .i64 0), (.int .i64 0), (.slice none 0 0)]), (.int .i64 1)]) (((le4.trans le8).trans le18).trans le23) rfl rfl ⟨⟨_, rfl, fun w hh => run_cellA (i := 0) hh rfl rfl ag27 sz27 rfl rfl⟩, rfl, trivial⟩ ?_
      exact ⟨rfl, ⟨(.agg #[(.int .i64 0), (.int .i64 0), (.slice none 0 0)]), rfl, (⟨_, ⟨_, _, rfl, rfl, ⟨_, _, rfl, rfl, (rep_one rfl sl_nil)⟩⟩, rfl⟩ : VRep (kMach true true) _ _ (⟨0, 0, []⟩ : Mach))⟩⟩
    · replace hd0 := sel_f e52 hd0; clear e52
      refine wg_skip ?_
      refine wg_seq ?_
      have g53 := (gd_some hd0).1; replace hd0 := (gd_some hd0).2
      refine wg_free [7, 9, 10] [(fun es => phP (tInt .i64) m.inputs), (fun es => phX (.int .i64 m.inputs)), (fun es => phP (tInt .i64) m.outputs), (fun es => phX (.int .i64 m.outputs)), (fun es => phP (tSl false (tSl false kEdge)) m.rows), (fun es => phR (tSl false (tSl false kEdge)) m.rows), (fun es => phX (.int .i64 (↑m.rows.length : Int))), (fun es => (fun v _ => v.oneCell' = true)), (fun es => phX (.agg #[(.int .i64 m.inputs), (.int .i64 m.outputs), (es.getD 0 undef)])), (fun es => (fun v _ => v = .pointer (some ⟨blkOf v, 0, none⟩))), (fun es => (fun _ _ => True))] (fun fl es R O => (fl = [false, false, false] ∧ O.Perm ([box b9 [(.int .i64 0), (.int .i64 0), (.slice none 0 0)] 27] ++ A) ∧ True) ∨ (fl = [true, false, false] ∧ ∃ (f_o54 : Frag), O.Perm ([box b9 [(.int .i64 0), (.int .i64 0), (.slice none 0 0)] 27, f_o54] ++ A) ∧ N2 true kEdge R f_o54 (es.getD 0 undef) (List.replicate (↑m.rows.length : Int).toNat (.slice none 0 0)) (mk (↑m.rows.length : Int) ([] : List Edge)) ∧ capOf (es.getD 0 undef) = (mk (↑m.rows.length : Int) ([] : List Edge)).length ∧ True) ∨ (fl = [false, true, false] ∧ O.Perm ([box b9 [(.int .i64 0), (.int .i64 0), (.slice none 0 0)] 27, box (blkOf (es.getD 1 undef)) [(.int .i64 0), (.int .i64 0), (.slice none 0 0)] 27] ++ A) ∧ True) ∨ (fl = [true, true, false] ∧ ∃ (f_o54 : Frag), O.Perm ([box b9 [(.int .i64 0), (.int .i64 0), (.slice none 0 0)] 27, f_o54, box (blkOf (es.getD 1 undef)) [(.int .i64 0), (.int .i64 0), (.slice none 0 0)] 27] ++ A) ∧ N2 true kEdge R f_o54 (es.getD 0 undef) (List.replicate (↑m.rows.length : Int).toNat (.slice none 0 0)) (mk (↑m.rows.length : Int) ([] : List Edge)) ∧ capOf (es.getD 0 undef) = (mk (↑m.rows.length : Int) ([] : List Edge)).length ∧ True) ∨ (fl = [true, true, true] ∧ ∃ (f_o54 : Frag), O.Perm ([box b9 [(.int .i64 0), (.int .i64 0), (.slice none 0 0)] 27, f_o54, box (blkOf (es.getD 1 undef)) [(.int .i64 m.inputs), (.int .i64 m.outputs), (es.getD 0 undef)] 27] ++ A) ∧ N2 true kEdge R f_o54 (es.getD 0 undef) (List.replicate (↑m.rows.length : Int).toNat (.slice none 0 0)) (mk (↑m.rows.length : Int) ([] : List Edge)) ∧ capOf (es.getD 0 undef) = (mk (↑m.rows.length : Int) ([] : List Edge)).length ∧ True)) mixed (by kernel_rfl) ⟨(monoE_of mono_p), (monoE_of mono_x), (monoE_of mono_p), (monoE_of mono_x), (monoE_of mono_p), (monoE_of mono_r), (monoE_of mono_x), (fun _ _ _ _ _ h => h), (fun _ _ _ _ _ h => h), (fun _ _ _ _ _ h => h), (fun _ _ _ _ _ h => h), trivial⟩ (by
          rintro fl es R R' O hle (⟨rfl, hp, _⟩ | ⟨rfl, f_o54, hp, h_o54, c_o54, _⟩ | ⟨rfl, hp, _⟩ | ⟨rfl, f_o54, hp, h_o54, c_o54, _⟩ | ⟨rfl, f_o54, hp, h_o54, c_o54, _⟩)
          · exact (.inl ⟨rfl, hp, trivial⟩)
          · exact (.inr (.inl ⟨rfl, f_o54, hp, (h_o54.mono hle), c_o54, trivial⟩))
          · exact (.inr (.inr (.inl ⟨rfl, hp, trivial⟩)))
          · exact (.inr (.inr (.inr (.inl ⟨rfl, f_o54, hp, (h_o54.mono hle), c_o54, trivial⟩))))
          · exact (.inr (.inr (.inr (.inr ⟨rfl, f_o54, hp, (h_o54.mono hle), c_o54, trivial⟩))))) ⟨(fun _ _ _ _ _ h => h), (fun _ _ _ _ _ h => h), (fun _ _ _ _ _ h => h), (fun _ _ _ _ _ h => h), (fun _ _ _ _ _ h => h), (fun _ _ _ _ _ h => h), (fun _ _ _ _ _ h => h), (fun _ _ _ _ _ h => h), (fun es es' v R hs h => by have e0 := hs 0 (by kernel_rfl); show phX (.agg #[(.int .i64 m.inputs), (.int .i64 m.outputs), (es'.getD 0 undef)]) v R; rw [← e0]; exact h), (fun _ _ _ _ _ h => h), (fun _ _ _ _ _ h => h), trivial⟩ (fun es => .inl ⟨rfl, (List.Perm.refl _), trivial⟩) ⟨?_, ?_, ?_, ?_, ?_, ?_, ?_, ?_, ?_, ?_, ?_, trivial⟩ fun R56 le57 => ?_
      · intro l R0q fl O hle ha hd hk hW
        have a4 : l 4 = v1 := ha 4 rfl
        exact ph_fieldR fd27_0 pt_Mach0 a4 ((h2.mono ((le8.trans le18).trans le23)).mono hle)
      · intro l R1q fl O hle ha hd hk hW
        obtain ⟨d0, _⟩ := hd
        have f36 : phP (tInt .i64) m.inputs (l 36) R1q := d0 rfl
        exact ph_exact (ph_loadR ty3 rfl f36) (fun _ _ h => vrep_int.1 h)
      · intro l R2q fl O hle ha hd hk hW
        have a4 : l 4 = v1 := ha 4 rfl
        exact ph_fieldR fd27_1 pt_Mach1 a4 ((h2.mono ((le8.trans le18).trans le23)).mono hle)
      · intro l R3q fl O hle ha hd hk hW
        obtain ⟨d0, _⟩ := hd
        have f38 : phP (tInt .i64) m.outputs (l 38) R3q := d0 rfl
        exact ph_exact (ph_loadR ty3 rfl f38) (fun _ _ h => vrep_int.1 h)
      · intro l R4q fl O hle ha hd hk hW
        have a4 : l 4 = v1 := ha 4 rfl
        exact ph_fieldR fd27_2 pt_Mach2 a4 ((h2.mono ((le8.trans le18).trans le23)).mono hle)
      · intro l R5q fl O hle ha hd hk hW
        obtain ⟨d0, _⟩ := hd
        have f40 : phP (tSl false (tSl false kEdge)) m.rows (l 40) R5q := d0 rfl
        exact ph_loadR ty25 rfl f40
      · intro l R6q fl O hle ha hd hk hW
        obtain ⟨d0, _⟩ := hd
        have f41 : phR (tSl false (tSl false kEdge)) m.rows (l 41) R6q := d0 rfl
        exact ph_val (val_lenR rfl Try.underlying25 rfl (sl_s f41))
      · intro l R7q fl O hle ha hd hk hf hW
        obtain ⟨d0, d1, _⟩ := hd
        have f42 : l 42 = (.int .i64 (↑m.rows.length : Int)) := d0 rfl
        rcases hW with ⟨rfl, hp, _⟩ | ⟨rfl, f_o54, hp, h_o54, c_o54, _⟩ | ⟨rfl, hp, _⟩ | ⟨rfl, f_o54, hp, h_o54, c_o54, _⟩ | ⟨rfl, f_o54, hp, h_o54, c_o54, _⟩
        · refine eff_perm hp ?_
          refine eff_perm (O1 := [] ++ ([box b9 [(.int .i64 0), (.int .i64 0), (.slice none 0 0)] 27] ++ A)) (List.Perm.refl _) ?_
          refine Eff.mono (eff_nmake (t := true) (T := kEdge) (n := (↑m.rows.length : Int).toNat) Try.underlying25 zh41 (idx_nonneg f42 g53.1) (idx_nonneg f42 g53.1) (okM_b g53) (okM_n g53)) ?_
          rintro v R' O' hle' ⟨_, rfl, rfl, f_o54, rfl, h_o54, c_o54z⟩
          exact ⟨(n2_one h_o54), .inr (.inl ⟨rfl, f_o54, (pk 1 rfl (pk 0 rfl (List.Perm.refl _))), h_o54, (c_o54z.trans List.length_replicate.symm), trivial⟩)⟩
        · cases hf
        · refine eff_perm hp ?_
          refine eff_perm (O1 := [] ++ ([box b9 [(.int .i64 0), (.int .i64 0), (.slice none 0 0)] 27, box (blkOf (l 11)) [(.int .i64 0), (.int .i64 0), (.slice none 0 0)] 27] ++ A)) (List.Perm.refl _) ?_
          refine Eff.mono (eff_nmake (t := true) (T := kEdge) (n := (↑m.rows.length : Int).toNat) Try.underlying25 zh41 (idx_nonneg f42 g53.1) (idx_nonneg f42 g53.1) (okM_b g53) (okM_n g53)) ?_
          rintro v R' O' hle' ⟨_, rfl, rfl, f_o54, rfl, h_o54, c_o54z⟩
          exact ⟨(n2_one h_o54), .inr (.inr (.inr (.inl ⟨rfl, f_o54, (pk 1 rfl (pk 0 rfl (pk 0 rfl (List.Perm.refl _)))), h_o54, (c_o54z.trans List.length_replicate.symm), trivial⟩)))⟩
        · cases hf
        · cases hf
      · intro l R8q fl O hle ha hd hk hW
        obtain ⟨d0, d1, d2, _⟩ := hd
        have f37 : l 37 = (.int .i64 m.inputs) := d0 rfl
        have f39 : l 39 = (.int .i64 m.outputs) := d1 rfl
        have f43 : (l 43).oneCell' = true := d2 rfl
        exact ph_val (val_buildC [(0, (.int .i64 m.inputs)), (1, (.int .i64 m.outputs)), (2, (.agg #[(l 43)]))] (ps := [(0, (.int .i64 m.inputs)), (1, (.int .i64 m.outputs)), (2, (l 43))]) (v := (.agg #[(.int .i64 m.inputs), (.int .i64 m.outputs), (l 43)])) (by simp only [List.map, ev, f37, f39] <;> rfl) (by simp only [List.map_cons, List.map_nil, (cells_of_one f43)]; rfl) (fun w => by kernel_rfl))
      · intro l R9q fl O hle ha hd hk hf hW
        rcases hW with ⟨rfl, hp, _⟩ | ⟨rfl, f_o54, hp, h_o54, c_o54, _⟩ | ⟨rfl, hp, _⟩ | ⟨rfl, f_o54, hp, h_o54, c_o54, _⟩ | ⟨rfl, f_o54, hp, h_o54, c_o54, _⟩
        · refine eff_perm hp ?_
          refine Eff.mono (eff_alloc za27) ?_
          rintro v R' O' hle' ⟨rfl, b, rfl, rfl⟩
          exact ⟨rfl, .inr (.inr (.inl ⟨rfl, (pk 1 rfl (pk 0 rfl (List.Perm.refl _))), trivial⟩))⟩
        · refine eff_perm hp ?_
          refine Eff.mono (eff_alloc za27) ?_
          rintro v R' O' hle' ⟨rfl, b, rfl, rfl⟩
          exact ⟨rfl, .inr (.inr (.inr (.inl ⟨rfl, f_o54, (pk 1 rfl (pk 1 rfl (pk 0 rfl (List.Perm.refl _)))), h_o54, c_o54, trivial⟩)))⟩
        · cases hf
        · cases hf
        · cases hf
      · intro l R10q fl O hle ha hd hk hf hW
        obtain ⟨d0, d1, d2, d3, d4, d5, d6, d7, d8, d9, d10, d11, _⟩ := hd
        have f11 : l 11 = (.pointer (some ⟨(blkOf (l 11)), 0, none⟩)) := d0 rfl
        have f44 : l 44 = (.agg #[(.int .i64 m.inputs), (.int .i64 m.outputs), (l 43)]) := d1 rfl
        rcases hW with ⟨rfl, hp, _⟩ | ⟨rfl, f_o54, hp, h_o54, c_o54, _⟩ | ⟨rfl, hp, _⟩ | ⟨rfl, f_o54, hp, h_o54, c_o54, _⟩ | ⟨rfl, f_o54, hp, h_o54, c_o54, _⟩
        · exact kn_no hk (by kernel_rfl)
        · exact kn_no hk (by kernel_rfl)
        · exact kn_no hk (by kernel_rfl)
        · refine eff_perm hp ?_
          refine Eff.mono (eff_store (i := 2) (vs := [(.int .i64 m.inputs), (.int .i64 m.outputs), (l 43)]) sz27 f11 f44 rfl rfl rfl (Nat.le_of_ble_eq_true rfl) (one_cons rfl (one_cons rfl (one_cons (n2_one h_o54) one_nil)))) ?_
          rintro v R' O' hle' ⟨_, rfl, rfl⟩
          exact ⟨trivial, .inr (.inr (.inr (.inr ⟨rfl, f_o54, (List.Perm.refl _), h_o54, c_o54, trivial⟩)))⟩
        · cases hf
      intro v58
      intro v59
      intro v60
      intro v61
      intro v62
      intro v63
      intro v64
      intro v65
      intro v66
      intro v67
      intro h68
      intro h69
      intro h70
      intro h71
      intro h72
      intro h73
      intro h74
      intro h75
      intro h76
      intro h77
      rintro OO78 (⟨e, _⟩ | ⟨e, _⟩ | ⟨e, _⟩ | ⟨e, _⟩ | ⟨_, f79, hp, h80, c81, _⟩)
      · cases e
      · cases e
      · cases e
      · cases e
      refine ⟨[], _, hp, ?_⟩
      obtain ⟨b82, rfl⟩ : ∃ b, v67 = .pointer (some ⟨b, 0, none⟩) := ⟨_, h77⟩
      obtain rfl := Eq.symm h69
      obtain rfl := Eq.symm h71
      obtain rfl := Eq.symm h74
      replace h76 : phX (.agg #[(.int .i64 m.inputs), (.int .i64 m.outputs), v65]) v66 R56 := h76
      obtain rfl := Eq.symm h76
      refine wo_nil ?_
      replace hd0 := bd_some hd0; obtain ⟨o83, hd1, hd0⟩ := hd0
      refine wg_meet (γ := (List (List Edge)) × Frag) true [45, 46, 47, 48, 49, 50, 51, 52, 12, 13, 53, 54, 55, 56, 57, 58, 59, 60] (fun g => []) (fun g => [box b9 [(.int .i64 0), (.int .i64 0), (.slice none 0 0)] 27, box b82 [(.int .i64 m.inputs), (.int .i64 m.outputs), v65] 27, g.2] ++ A) (fun g R => o83 = g.1 ∧ NRep true kEdge R g.2 v65 g.1 ∧ capOf v65 = g.1.length ∧ True) ?_ ?_
      ·
        refine wg_seq ?_
        refine wg_region ?_
        refine wo_fieldR rfl fd27_2 pt_Mach2 rfl (h2.mono (((le8.trans le18).trans le23).trans le57)) fun v90 h91 => ?_
        refine wo_loadR rfl ty25 rfl h91 fun v92 h93 => ?_
        refine wo_v rfl (val_lenR rfl Try.underlying25 rfl (sl_s h93)) ?_
        refine wo_v rfl (val_move (v := (.int .i64 0)) rfl) ?_
        refine wo_nil ?_
        refine wg_block ?_
        refine wg_loopS (γ := Nat × Int × (List (List Edge)) × Frag) true [49, 50, 51, 52, 12, 13, 53, 54, 55, 56, 57, 58, 59, 60, 48] (fun g => [(48, (.int .i64 g.2.1))]) (fun g => [box b9 [(.int .i64 0), (.int .i64 0), (.slice none 0 0)] 27, box b82 [(.int .i64 m.inputs), (.int .i64 m.outputs), v65] 27, g.2.2.2] ++ A) (fun g R => machines_With_L1 N m g.1 g.2.1 g.2.2.1 = some o83 ∧ NRep true kEdge R g.2.2.2 v65 g.2.2.1 ∧ capOf v65 = g.2.2.1.length ∧ True) (fun g => g.1) (N, 0, (mk (↑m.rows.length : Int) ([] : List Edge)), f79) ⟨rfl, trivial⟩ ⟨[], (pk 0 rfl (pk 1 rfl (pk 0 rfl (List.Perm.refl _))))⟩ ⟨hd1, (nrep_of h80), c81, trivial⟩ (fun _ => rfl) ?_
        clear hd1
        rintro ⟨F94, x95, x96, f99⟩ j137 D138 R97 hD139 le98 ⟨hd1, ⟨V101, h100⟩, ht102, _⟩
        obtain rfl := hD139 rfl
        rcases F94 with _ | F94
        · exact none_elim hd1
        replace hd1 : machines_With_L1 N m (F94 + 1) x95 x96 = some o83 := hd1; rw [machines_With_L1] at hd1
        refine wg_seq ?_
        refine wg_region ?_
        refine wo_v rfl (val_lss rfl rfl) ?_
        refine wo_nil ?_
        refine wg_seq ?_
        refine wg_cond rfl (fun e103 => ?_) (fun e103 => ?_)
        · replace hd1 := sel_t e103 hd1; clear e103
          refine wg_skip ?_
          refine wg_seq ?_
          refine wg_block ?_
          refine wg_seq ?_
          refine wg_region ?_
          refine wo_v rfl (val_move (v := (.int .i64 x95)) rfl) ?_
          have g104 := (gd_some hd1).1; replace hd1 := (gd_some hd1).2
          refine wo_indexR (i := x95.toNat) rfl sl25 rfl (sl_s (h93.mono le98)) (idx_nonneg rfl g104.1) (okI_lt g104) fun v105 h106 => ?_
          refine wo_loadR rfl ty41 rfl h106 fun v107 h108 => ?_
          refine wo_v rfl (val_assign (v := (.int .i64 x95)) rfl) ?_
          refine wo_v rfl (val_assign (v := v107) rfl) ?_
          refine wo_nil ?_
          replace hd1 := bd_some hd1; obtain ⟨y109, c110, hd1⟩ := hd1
          replace hd1 := bd_some hd1; obtain ⟨y112, c113, hd1⟩ := hd1
          have g115 := (gd_some hd1).1; replace hd1 := (gd_some hd1).2
          refine wg_free [4, 5, 7] [(fun es => phX (.pointer (some ⟨b82, 2, none⟩))), (fun es => phX v65), (fun es => phX (.int .i64 x95)), (fun es => phX v107), (fun es => (fun v _ => v.oneCell' = true)), (fun es => (fun v _ => v.oneCell' = true)), (fun es => (fun u _ => OPtr tHdr v65 V101 u x95.toNat)), (fun es => (fun _ _ => True))] (fun fl es R O => (fl = [false, false, false] ∧ O.Perm ([box b9 [(.int .i64 0), (.int .i64 0), (.slice none 0 0)] 27, box b82 [(.int .i64 m.inputs), (.int .i64 m.outputs), v65] 27, f99] ++ A) ∧ True) ∨ (fl = [true, false, false] ∧ ∃ (f_o111 : Frag), O.Perm ([box b9 [(.int .i64 0), (.int .i64 0), (.slice none 0 0)] 27, box b82 [(.int .i64 m.inputs), (.int .i64 m.outputs), v65] 27, f99, f_o111] ++ A) ∧ ORep kEdge R f_o111 (es.getD 0 undef) y109 ∧ True) ∨ (fl = [true, true, false] ∧ ∃ (f_o114 : Frag), O.Perm ([box b9 [(.int .i64 0), (.int .i64 0), (.slice none 0 0)] 27, box b82 [(.int .i64 m.inputs), (.int .i64 m.outputs), v65] 27, f99, f_o114] ++ A) ∧ ORep kEdge R f_o114 (es.getD 1 undef) y112 ∧ capOf (es.getD 1 undef) = y112.length ∧ True) ∨ (fl = [true, true, true] ∧ ∃ (f_o54 : Frag), O.Perm ([box b9 [(.int .i64 0), (.int .i64 0), (.slice none 0 0)] 27, box b82 [(.int .i64 m.inputs), (.int .i64 m.outputs), v65] 27, f_o54] ++ A) ∧ N2 true kEdge R f_o54 v65 (V101.set x95.toNat (es.getD 1 undef)) (up x96 x95 y112) ∧ True)) mixed (by kernel_rfl) ⟨(monoE_of mono_x), (monoE_of mono_x), (monoE_of mono_x), (monoE_of mono_x), (fun _ _ _ _ _ h => h), (fun _ _ _ _ _ h => h), (monoE_of (fun _ _ _ _ h => h)), (fun _ _ _ _ _ h => h), trivial⟩ (by
              rintro fl es R R' O hle (⟨rfl, hp, _⟩ | ⟨rfl, f_o111, hp, h_o111, _⟩ | ⟨rfl, f_o114, hp, h_o114, c_o114, _⟩ | ⟨rfl, f_o54, hp, h_o54, _⟩)
              · exact (.inl ⟨rfl, hp, trivial⟩)
              · exact (.inr (.inl ⟨rfl, f_o111, hp, (h_o111.mono hle), trivial⟩))
              · exact (.inr (.inr (.inl ⟨rfl, f_o114, hp, (h_o114.mono hle), c_o114, trivial⟩)))
              · exact (.inr (.inr (.inr ⟨rfl, f_o54, hp, (h_o54.mono hle), trivial⟩)))) ⟨(fun _ _ _ _ _ h => h), (fun _ _ _ _ _ h => h), (fun _ _ _ _ _ h => h), (fun _ _ _ _ _ h => h), (fun _ _ _ _ _ h => h), (fun _ _ _ _ _ h => h), (fun _ _ _ _ _ h => h), (fun _ _ _ _ _ h => h), trivial⟩ (fun es => .inl ⟨rfl, (List.Perm.refl _), trivial⟩) ⟨?_, ?_, ?_, ?_, ?_, ?_, ?_, ?_, trivial⟩ fun R116 le117 => ?_
          · intro l R0q fl O hle ha hd hk hW
            have a11 : l 11 = (.pointer (some ⟨b82, 0, none⟩)) := ha 11 rfl
            exact ph_val (val_fieldB fd27_2 a11)
          · intro l R1q fl O hle ha hd hk hW
            obtain ⟨d0, _⟩ := hd
            have f53 : l 53 = (.pointer (some ⟨b82, 2, none⟩)) := d0 rfl
            rcases hW with ⟨rfl, hp, _⟩ | ⟨rfl, f_o111, hp, h_o111, _⟩ | ⟨rfl, f_o114, hp, h_o114, c_o114, _⟩ | ⟨rfl, f_o54, hp, h_o54, _⟩
            · exact eff_permP hp (ph_val (val_loadB (i := 1) ag25 f53 rfl rfl))
            · exact eff_permP hp (ph_val (val_loadB (i := 1) ag25 f53 rfl rfl))
            · exact eff_permP hp (ph_val (val_loadB (i := 1) ag25 f53 rfl rfl))
            · exact kn_no hk (by kernel_rfl)
          · intro l R2q fl O hle ha hd hk hW
            have a12 : l 12 = (.int .i64 x95) := ha 12 rfl
            exact ph_val (val_move a12)
          · intro l R3q fl O hle ha hd hk hW
            have a13 : l 13 = v107 := ha 13 rfl
            exact ph_val (val_move a13)
          · intro l R4q fl O hle ha hd hk hf hW
            obtain ⟨d0, _⟩ := hd
            have f56 : l 56 = v107 := d0 rfl
            rcases hW with ⟨rfl, hp, _⟩ | ⟨rfl, f_o111, hp, h_o111, _⟩ | ⟨rfl, f_o114, hp, h_o114, c_o114, _⟩ | ⟨rfl, f_o54, hp, h_o54, _⟩
            · refine eff_perm hp ?_
              refine eff_perm (O1 := [] ++ ([box b9 [(.int .i64 0), (.int .i64 0), (.slice none 0 0)] 27, box b82 [(.int .i64 m.inputs), (.int .i64 m.outputs), v65] 27, f99] ++ A)) (List.Perm.refl _) ?_
              refine Eff.mono (eff_callO (cs := []) (vs := [v107]) en53 rfl (by simp only [List.map, ev, f56] <;> rfl) (c_slices_Clone_api_Edge_o (h108.mono hle) c110)) ?_
              rintro v R' O' hle' ⟨_, rfl, u_, f_o111, rfl, rfl, h_o111⟩
              exact ⟨(orep_one h_o111), .inr (.inl ⟨rfl, f_o111, (pk 1 rfl (pk 1 rfl (pk 1 rfl (pk 0 rfl (List.Perm.refl _))))), h_o111, trivial⟩)⟩
            · cases hf
            · cases hf
            · cases hf
          · intro l R5q fl O hle ha hd hk hf hW
            obtain ⟨d0, d1, _⟩ := hd
            have f57 : (l 57).oneCell' = true := d0 rfl
            rcases hW with ⟨rfl, hp, _⟩ | ⟨rfl, f_o111, hp, h_o111, _⟩ | ⟨rfl, f_o114, hp, h_o114, c_o114, _⟩ | ⟨rfl, f_o54, hp, h_o54, _⟩
            · exact kn_no hk (by kernel_rfl)
            · refine eff_perm hp ?_
              refine eff_perm (O1 := [f_o111] ++ ([box b9 [(.int .i64 0), (.int .i64 0), (.slice none 0 0)] 27, box b82 [(.int .i64 m.inputs), (.int .i64 m.outputs), v65] 27, f99] ++ A)) (pk 3 rfl (pk 0 rfl (pk 0 rfl (pk 0 rfl (List.Perm.refl _))))) ?_
              refine Eff.mono (eff_callO (cs := []) (vs := [(l 57)]) en52 rfl rfl (c_slices_Clip_api_Edge_o h_o111 c113)) ?_
              rintro v R' O' hle' ⟨_, rfl, u_, f_o114, rfl, rfl, h_o114, c_o114⟩
              exact ⟨(orep_one h_o114), .inr (.inr (.inl ⟨rfl, f_o114, (pk 1 rfl (pk 1 rfl (pk 1 rfl (pk 0 rfl (List.Perm.refl _))))), h_o114, c_o114, trivial⟩))⟩
            · cases hf
            · cases hf
          · intro l R6q fl O hle ha hd hk hW
            obtain ⟨d0, d1, d2, d3, d4, d5, d6, d7, _⟩ := hd
            have f54 : l 54 = v65 := d0 rfl
            have f55 : l 55 = (.int .i64 x95) := d1 rfl
            exact ph_indexN (i := x95.toNat) (sl_hdr (b := true) sl25) f54 (h100.mono hle) (idx_nonneg f55 g115.1) (okI_lt g115)
          · intro l R7q fl O hle ha hd hk hf hW
            obtain ⟨d0, d1, d2, d3, d4, d5, d6, d7, d8, _⟩ := hd
            have f59 : (fun u _ => OPtr tHdr v65 V101 u x95.toNat) (l 59) R7q := d0 rfl
            have f58 : (l 58).oneCell' = true := d1 rfl
            rcases hW with ⟨rfl, hp, _⟩ | ⟨rfl, f_o111, hp, h_o111, _⟩ | ⟨rfl, f_o114, hp, h_o114, c_o114, _⟩ | ⟨rfl, f_o54, hp, h_o54, _⟩
            · exact kn_no hk (by kernel_rfl)
            · exact kn_no hk (by kernel_rfl)
            · refine eff_perm hp ?_
              refine eff_perm (O1 := [f99, f_o114] ++ ([box b9 [(.int .i64 0), (.int .i64 0), (.slice none 0 0)] 27, box b82 [(.int .i64 m.inputs), (.int .i64 m.outputs), v65] 27] ++ A)) (pk 2 rfl (pk 2 rfl (pk 0 rfl (pk 0 rfl (List.Perm.refl _))))) ?_
              refine Eff.mono (eff_setN (r := x95.toNat) (ty_hdr (b := true) ty41) (h100.mono hle) (okI_lt g115) rfl f59 rfl h_o114 (fun _ => c_o114)) ?_
              rintro v R' O' hle' ⟨_, rfl, rfl, f, rfl, h⟩
              exact ⟨trivial, .inr (.inr (.inr ⟨rfl, f, (pk 1 rfl (pk 1 rfl (pk 0 rfl (List.Perm.refl _)))), h, trivial⟩))⟩
            · cases hf
          intro v118
          intro v119
          intro v120
          intro v121
          intro v122
          intro v123
          intro v124
          intro h125
          intro h126
          intro h127
          intro h128
          intro h129
          intro h130
          intro h131
          rintro OO132 (⟨e, _⟩ | ⟨e, _⟩ | ⟨e, _⟩ | ⟨_, f133, hp, h134, _⟩)
          · cases e
          · cases e
          · cases e
          refine ⟨[], _, hp, ?_⟩
          obtain rfl := Eq.symm h125
          obtain rfl := Eq.symm h126
          obtain rfl := Eq.symm h127
          obtain rfl := Eq.symm h128
          refine wo_nil ?_
          refine wg_region ?_
          have g136 := (gd_some hd1).1; replace hd1 := (gd_some hd1).2
          refine wo_v rfl (val_add rfl rfl g136) ?_
          refine wo_v rfl (val_move (v := (.int .i64 (x95 + 1))) rfl) ?_
          refine wo_nil ?_
          exact ⟨(fun _ => rfl), le117, (by repeat (first | exact off_self | refine off_upd rfl ?_ | refine off_setl rfl ?_ | refine off_mask_sub rfl ?_)), (F94, x95 + 1, (up x96 x95 y112), f133), Nat.lt_succ_self _, ⟨rfl, trivial⟩, ⟨[], List.Perm.refl _⟩, hd1, (nrep_of h134), (ht102.trans List.length_set.symm), trivial⟩
        · replace hd1 := sel_f e103 hd1; clear e103
          refine wg_exit ?_
          exact ⟨(fun _ => rfl), le98, (by repeat (first | exact off_self | refine off_upd rfl ?_ | refine off_setl rfl ?_ | refine off_mask_sub rfl ?_)), (x96, f99), trivial, ⟨[], List.Perm.refl _⟩, (Option.some.inj hd1).symm, (nrep_of h100), ht102, trivial⟩
      ·
        rintro ⟨o83, f86⟩ j140 D141 R84 hD142 le85 ⟨rfl, ⟨V88, h87⟩, ht89, _⟩
        obtain rfl := hD142 rfl
        refine wg_seq ?_
        have g143 := (gd_some hd0).1; replace hd0 := (gd_some hd0).2
        have g144 := (gd_some hd0).1; replace hd0 := (gd_some hd0).2
        refine wg_drawn 8 [] [phX (.pointer (some ⟨b82, 2, none⟩)), phX v65, phX (.int .i64 s), (fun u _ => OPtr tHdr v65 V88 u s.toNat), phX (V88.getD s.toNat default), phX (.int .i64 i), phX (enc_Edge x), (fun u _ => OPtr kEdge (V88.getD s.toNat default) (o83.getD s.toNat default) u i.toNat)] mixed (by kernel_rfl) (monoOk_of ⟨mono_x, mono_x, mono_x, (fun _ _ _ _ h => h), mono_x, mono_x, mono_x, (fun _ _ _ _ h => h), trivial⟩) ⟨?_, ?_, ?_, ?_, ?_, ?_, ?_, ?_, trivial⟩ fun R145 le146 => ?_
        · intro l R0q hle ha hd
          have a11 : l 11 = (.pointer (some ⟨b82, 0, none⟩)) := ha 11 rfl
          exact gstep_plain rfl rfl rfl (ph_val (val_fieldB fd27_2 a11))
        · intro l R1q hle ha hd
          obtain ⟨d0, _⟩ := hd
          have f61 : l 61 = (.pointer (some ⟨b82, 2, none⟩)) := d0 rfl
          exact gstep_plain rfl rfl rfl (ph_val (val_loadB (i := 1) ag25 f61 rfl rfl))
        · intro l R2q hle ha hd
          have a1 : l 1 = (.int .i64 s) := ha 1 rfl
          exact gstep_plain rfl rfl rfl (ph_val (val_move a1))
        · intro l R3q hle ha hd
          obtain ⟨d0, d1, _⟩ := hd
          have f62 : l 62 = v65 := d0 rfl
          have f63 : l 63 = (.int .i64 s) := d1 rfl
          exact gstep_plain rfl rfl rfl (ph_indexN (i := s.toNat) (sl_hdr (b := true) sl25) f62 (h87.mono hle) (idx_nonneg f63 g143.1) (okI_lt g143))
        · intro l R4q hle ha hd
          obtain ⟨d0, _⟩ := hd
          have f64 : (fun u _ => OPtr tHdr v65 V88 u s.toNat) (l 64) R4q := d0 rfl
          exact gstep_plain rfl rfl rfl (ph_loadN (i := s.toNat) (j := 2) (ty_hdr (b := true) ty41) (h87.mono hle) rfl rfl f64 (okI_lt g143))
        · intro l R5q hle ha hd
          have a2 : l 2 = (.int .i64 i) := ha 2 rfl
          exact gstep_plain rfl rfl rfl (ph_val (val_move a2))
        · intro l R6q hle ha hd
          have a7 : l 7 = v5 := ha 7 rfl
          exact gstep_plain rfl rfl rfl (ph_exact (ph_loadR ty40 a7 ((h6.mono (((le18.trans le23).trans le57).trans le85)).mono hle)) (fun _ _ h => vrep_Edge.1 h))
        · intro l R7q hle ha hd
          obtain ⟨d0, d1, d2, d3, d4, d5, d6, d7, d8, _⟩ := hd
          have f65 : l 65 = (V88.getD s.toNat default) := d0 rfl
          have f66 : l 66 = (.int .i64 i) := d1 rfl
          exact gstep_plain rfl rfl rfl (ph_indexNR (i := i.toNat) (r := s.toNat) sl41 (h87.mono hle) (okI_lt g143) f65 (idx_nonneg f66 g144.1) (okI_lt g144))
        intro v147 h148
        intro v149 h150
        intro v151 h152
        intro v153 h154
        intro v155 h156
        intro v157 h158
        intro v159 h160
        intro v161 h162
        obtain rfl := Eq.symm h148
        obtain rfl := Eq.symm h150
        obtain rfl := Eq.symm h152
        obtain rfl := Eq.symm h156
        obtain rfl := Eq.symm h158
        obtain rfl := Eq.symm h160
        refine wo_turn0 (Oc := [f86]) (Or := [box b9 [(.int .i64 0), (.int .i64 0), (.slice none 0 0)] 27, box b82 [(.int .i64 m.inputs), (.int .i64 m.outputs), v65] 27] ++ A) (pk 2 rfl (pk 0 rfl (pk 0 rfl (List.Perm.refl _)))) (eff_storeN (i := i.toNat) (r := s.toNat) ty40 (h87.mono le146) (okI_lt g143) rfl h162 (okI_lt g144) rfl (vrep_Edge.2 rfl)) ?_
        rintro v165 R168 Oc167 le169 ⟨rfl, f163, rfl, h164⟩
        refine wo_nil ?_
        refine wg_seq ?_
        refine wg_region ?_
        refine wo_v rfl (val_loadBA (i := 2) ag27 sz27 rfl rfl rfl rfl) ?_
        refine wo_store (i := 1) (vs := [(.int .i64 m.inputs), (.int .i64 m.outputs), v65]) sz27 rfl rfl rfl rfl rfl rfl (one_cons rfl (one_cons rfl (one_cons (n2_one h164) one_nil))) ?_
        refine wo_v rfl (val_assign (v := (.int .i64 0)) rfl) ?_
        refine wo_nil ?_
        refine wg_freezeN (i := 0) rfl (nrep_of h164) fun R170 le171 h172 => ?_
        have h173 : VRep (tSl true (tSl true kEdge)) R170 v65 (up o83 s (up (ix o83 s) i x)) := (sl_t h172 (ht89.trans List.length_set.symm))
        refine wg_ret ?_
        obtain rfl := Option.some.inj hd0
        refine body_end (D := []) (J := [box b9 [(.int .i64 m.inputs), (.int .i64 m.outputs), v65] 27, box b82 [(.int .i64 m.inputs), (.int .i64 m.outputs), v65] 27]) (rs := [.cell 8 27, .tmp 9]) (vs := [(.agg #[(.int .i64 m.inputs), (.int .i64 m.outputs), v65]), (.int .i64 0)]) (((((((le4.trans le8).trans le18).trans le23).trans le57).trans le85).trans le146).trans le171) rfl rfl ⟨⟨_, rfl, fun w hh => run_cellA (i := 0) hh rfl rfl ag27 sz27 rfl rfl⟩, rfl, trivial⟩ ?_
        exact ⟨rfl, ⟨(.agg #[(.int .i64 m.inputs), (.int .i64 m.outputs), v65]), rfl, (⟨_, ⟨_, _, rfl, rfl, ⟨_, _, rfl, rfl, (rep_one rfl h173)⟩⟩, rfl⟩ : VRep (kMach true true) _ _ (⟨m.inputs, m.outputs, (up o83 s (up (ix o83 s) i x))⟩ : Mach))⟩⟩
end GV
end Go.Proofs.Ytohjnbajgbdhhaa
