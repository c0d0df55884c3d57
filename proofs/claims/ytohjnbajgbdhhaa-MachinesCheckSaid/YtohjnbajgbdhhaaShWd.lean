/- The walks of the functions; printed. -/
import Derived.Test.YtohjnbajgbdhhaaShWc
import Derived.Test.YtohjnbajgbdhhaaRows
namespace Go.Proofs.Ytohjnbajgbdhhaa
namespace GV
open Go.IntWalk
set_option linter.unusedVariables false
set_option linter.unusedSimpArgs false
set_option maxRecDepth 100000
set_option maxHeartbeats 2000000
theorem en19 : Enters Try.prog 19 := enters_of Try.func19 rfl (by kernel_rfl)
theorem ty48 {b0 : Bool} : TyOk Try.prog 48 (kWDat b0) := by
  obtain ⟨i, hi, hs⟩ : ∃ i, Try.prog.info? 48 = some i ∧ i.size = 1 := info_size (by kernel_rfl)
  exact tyOk_of Try.underlying48 hi rfl hs
theorem fd48_0 : FieldOk Try.prog 48 0 0 := by
  obtain ⟨i, hi, hs⟩ : ∃ i, Try.prog.info? 46 = some i ∧ i.size = 1 := info_size (by kernel_rfl)
  exact fieldOk_of Try.underlying48 rfl rfl hi (by rw [hs]; rfl)
theorem ty46 {b0 : Bool} : TyOk Try.prog 46 (tSl b0 (tInt .u8)) := by
  obtain ⟨i, hi, hs⟩ : ∃ i, Try.prog.info? 46 = some i ∧ i.size = 1 := info_size (by kernel_rfl)
  exact tyOk_of Try.underlying46 hi rfl hs
theorem sl46 : SlOk Try.prog 46 5 (tInt .u8) := ⟨Try.underlying46, ty5⟩
theorem c_gauntletlaw01_W_Of {N : Nat} {R : RH} {x : WDat} {v_x : Value} (h_x : VRep (kWDat false) R v_x x) {inputs : Int} {r : (List Int)} (hd0 : gauntletlaw01_W_Of N x inputs = some r) : CallP Try.prog 20 #[v_x, (.int .i64 inputs)] R (fun v R' => VRep (tSl false (tInt .i64)) R' v r) := by
  refine callP_of_wg (args := [v_x, (.int .i64 inputs)]) Try.func20 rfl rfl fun A => ?_
  rw [gauntletlaw01_W_Of] at hd0
  refine wg_seq ?_
  refine wg_region ?_
  refine wo_boxR (T := (kWDat false)) rfl rfl h_x fun v1 R3 le4 h2 => ?_
  refine wo_v rfl (val_assign (v := (.slice none 0 0)) rfl) ?_
  refine wo_nil ?_
  refine wg_seq ?_
  refine wg_region ?_
  refine wo_v rfl (val_assign (v := (.slice none 0 0)) rfl) ?_
  refine wo_nil ?_
  replace hd0 := bd_some hd0; obtain ⟨o5, hd1, hd0⟩ := hd0
  refine wg_meet (γ := (List Int) × Value × Frag) true [6, 7, 8, 9, 10, 11, 12, 13, 14, 15, 18, 19, 20, 21, 22, 23, 24, 25, 26, 27, 28, 5, 16, 17] (fun g => [(5, g.2.1)]) (fun g => [g.2.2] ++ A) (fun g R => o5 = g.1 ∧ ORep (tInt .i64) R g.2.2 g.2.1 g.1 ∧ True) ?_ ?_
  ·
    refine wg_seq ?_
    refine wg_region ?_
    refine wo_v rfl (val_assign (v := (.int .i64 0)) rfl) ?_
    refine wo_nil ?_
    refine wg_block ?_
    refine wg_emp ?_
    refine wg_loopS (γ := Nat × (List Int) × Int × Value × Frag) true [7, 8, 9, 10, 11, 12, 13, 14, 15, 18, 19, 20, 21, 22, 23, 24, 25, 26, 27, 28, 5, 16, 17, 6] (fun g => [(5, g.2.2.2.1), (6, (.int .i64 g.2.2.1))]) (fun g => [g.2.2.2.2] ++ A) (fun g R => gauntletlaw01_W_Of_L1 N x inputs g.1 g.2.1 g.2.2.1 = some o5 ∧ ORep (tInt .i64) R g.2.2.2.2 g.2.2.2.1 g.2.1 ∧ True) (fun g => g.1) (N, ([] : List Int), 0, (.slice none 0 0), emp) ⟨rfl, rfl, trivial⟩ ⟨[], List.Perm.refl _⟩ ⟨hd1, (orep_emp (T := (tInt .i64))), trivial⟩ (fun _ => rfl) ?_
    clear hd1
    rintro ⟨F13, x14, x15, v18, f19⟩ j68 D69 R16 hD70 le17 ⟨hd1, h20, _⟩
    obtain rfl := hD70 rfl
    rcases F13 with _ | F13
    · exact none_elim hd1
    replace hd1 : gauntletlaw01_W_Of_L1 N x inputs (F13 + 1) x14 x15 = some o5 := hd1; rw [gauntletlaw01_W_Of_L1] at hd1
    refine wg_seq ?_
    refine wg_seq ?_
    refine wg_guarded 9 [] [phX (.int .i64 x15), phP (tSl false (tInt .u8)) x.syms, phR (tSl false (tInt .u8)) x.syms, phX (.int .i64 (↑x.syms.length : Int)), phX (.bool (decide (x15 < (↑x.syms.length : Int)))), phX (.bool (decide (x15 < (↑x.syms.length : Int)))), phG (true && ((decide (x15 < (↑x.syms.length : Int))) == true)) (phX (.int .i64 x15)), phG (true && ((decide (x15 < (↑x.syms.length : Int))) == true)) (phX (.bool (decide (x15 < 12)))), phX (.bool ((decide (x15 < (↑x.syms.length : Int))) && (decide (x15 < 12))))] (by kernel_rfl) (by kernel_rfl) (monoOk_of ⟨mono_x, mono_p, mono_r, mono_x, mono_x, mono_x, (mono_g mono_x), (mono_g mono_x), mono_x, trivial⟩) ⟨?_, ?_, ?_, ?_, ?_, ?_, ?_, ?_, ?_, trivial⟩ fun R22 le23 => ?_
    · intro l R0q hle ha hd
      have a6 : l 6 = (.int .i64 x15) := ha 6 rfl
      exact gstep_plain rfl rfl rfl (ph_val (val_move a6))
    · intro l R1q hle ha hd
      have a2 : l 2 = v1 := ha 2 rfl
      exact gstep_plain rfl rfl rfl (ph_fieldR fd48_0 pt_WDat0 a2 ((h2.mono le17).mono hle))
    · intro l R2q hle ha hd
      obtain ⟨d0, _⟩ := hd
      have f8 : phP (tSl false (tInt .u8)) x.syms (l 8) R2q := d0 rfl
      exact gstep_plain rfl rfl rfl (ph_loadR ty46 rfl f8)
    · intro l R3q hle ha hd
      obtain ⟨d0, _⟩ := hd
      have f9 : phR (tSl false (tInt .u8)) x.syms (l 9) R3q := d0 rfl
      exact gstep_plain rfl rfl rfl (ph_val (val_lenR rfl Try.underlying46 rfl (sl_s f9)))
    · intro l R4q hle ha hd
      obtain ⟨d0, d1, _⟩ := hd
      have f7 : l 7 = (.int .i64 x15) := d0 rfl
      have f10 : l 10 = (.int .i64 (↑x.syms.length : Int)) := d1 rfl
      exact gstep_plain rfl rfl rfl (ph_val (val_lss f7 f10))
    · intro l R5q hle ha hd
      obtain ⟨d0, _⟩ := hd
      have f11 : l 11 = (.bool (decide (x15 < (↑x.syms.length : Int)))) := d0 rfl
      exact gstep_plain rfl rfl rfl (ph_val (val_move f11))
    · intro l R6q hle ha hd
      obtain ⟨d0, _⟩ := hd
      have a6 : l 6 = (.int .i64 x15) := ha 6 rfl
      exact gstep_guard (Gj := true) (Bj := decide (x15 < (↑x.syms.length : Int))) rfl rfl rfl (gtrue (d0 rfl)) rfl (fun hG hB => ph_val (val_move a6))
    · intro l R7q hle ha hd
      obtain ⟨d0, d1, _⟩ := hd
      have f13g : phG (true && ((decide (x15 < (↑x.syms.length : Int))) == true)) (phX (.int .i64 x15)) (l 13) R7q := d0 rfl
      exact gstep_guard (Gj := true) (Bj := decide (x15 < (↑x.syms.length : Int))) rfl rfl rfl (gtrue (d1 rfl)) rfl (fun hG hB => ph_val (val_lss (show l 13 = (.int .i64 x15) from f13g.1 (gandT rfl hB)) rfl))
    · intro l R8q hle ha hd
      obtain ⟨d0, d1, _⟩ := hd
      have f12 : l 12 = (.bool (decide (x15 < (↑x.syms.length : Int)))) := d0 rfl
      have f14g : phG (true && ((decide (x15 < (↑x.syms.length : Int))) == true)) (phX (.bool (decide (x15 < 12)))) (l 14) R8q := d1 rfl
      exact gstep_plain rfl rfl rfl (ph_val (val_and f12 (fun hb => (show l 14 = (.bool (decide (x15 < 12))) from f14g.1 (gandT rfl hb))) rfl))
    intro v24 h25
    intro v26 h27
    intro v28 h29
    intro v30 h31
    intro v32 h33
    intro v34 h35
    intro v36 h37
    intro v38 h39
    intro v40 h41
    obtain rfl := Eq.symm h25
    obtain rfl := Eq.symm h31
    obtain rfl := Eq.symm h33
    obtain rfl := Eq.symm h35
    obtain rfl := Eq.symm h41
    refine wo_nil ?_
    refine wg_cond rfl (fun e42 => ?_) (fun e42 => ?_)
    · replace hd1 := sel_t e42 hd1; clear e42
      refine wg_skip ?_
      refine wg_seq ?_
      refine wg_block ?_
      refine wg_region ?_
      refine wo_v rfl (val_move (v := v18) rfl) ?_
      refine wo_fieldR rfl fd48_0 pt_WDat0 rfl (h2.mono (le17.trans le23)) fun v43 h44 => ?_
      refine wo_loadR rfl ty46 rfl h44 fun v45 h46 => ?_
      refine wo_v rfl (val_move (v := (.int .i64 x15)) rfl) ?_
      have g47 := (gd_some hd1).1; replace hd1 := (gd_some hd1).2
      refine wo_indexR (i := x15.toNat) rfl sl46 rfl (sl_s h46) (idx_nonneg rfl g47.1) (okI_lt g47) fun v48 h49 => ?_
      refine wo_loadR rfl ty5 rfl h49 fun v50 h51 => ?_
      obtain rfl := vrep_int.1 h51
      have g52 := (gd_some hd1).1; replace hd1 := (gd_some hd1).2
      refine wo_v rfl (val_conv64 Try.underlying5 Try.underlying3 rfl g52) ?_
      refine wo_v rfl (val_move (v := (.int .i64 inputs)) rfl) ?_
      have g53 := (gd_some hd1).1; replace hd1 := (gd_some hd1).2
      refine wo_v rfl (val_rem0 rfl rfl g53) ?_
      refine wo_lit (T := (tInt .i64)) (X := ([(ix x.syms x15) % inputs] : List Int)) (ps := [(0, (.int .i64 ((ix x.syms x15) % inputs)))]) (css := [[(.int .i64 ((ix x.syms x15) % inputs))]]) rfl Try.underlying49 zo3 rfl rfl (lit_reps ⟨rfl, trivial⟩) rfl rfl (by decide) fun v54 f55 cap56 h57 => ?_
      refine wo_freeze (i := 0) rfl h57 fun R59 le60 h61 => ?_
      have h62 : VRep (tSl true (tInt .i64)) R59 v54 ([(ix x.syms x15) % inputs] : List Int) := (sl_t h61 cap56)
      have g63 := (gd_some hd1).1; replace hd1 := (gd_some hd1).2
      refine wo_append (i := 0) (X := x14) (Y := ([(ix x.syms x15) % inputs] : List Int)) rfl Try.underlying49 zo3 rfl rfl rfl (h20.mono (le23.trans le60)) (sl_s (Sub.v (B := (tSl false (tInt .i64))) (sub_sl Sub.refl (fun _ => rfl)) h62)) g63.1 g63.2 fun v64 f65 h66 => ?_
      refine wo_v rfl (val_assign (v := v64) rfl) ?_
      refine wo_nil ?_
      refine wg_region ?_
      refine wo_v rfl (val_move (v := (.int .i64 x15)) rfl) ?_
      have g67 := (gd_some hd1).1; replace hd1 := (gd_some hd1).2
      refine wo_v rfl (val_add rfl rfl g67) ?_
      refine wo_v rfl (val_assign (v := (.int .i64 (x15 + 1))) rfl) ?_
      refine wo_nil ?_
      exact ⟨(fun _ => rfl), (le23.trans le60), (by repeat (first | exact off_self | refine off_upd rfl ?_ | refine off_setl rfl ?_ | refine off_mask_sub rfl ?_)), (F13, (x14 ++ ([(ix x.syms x15) % inputs] : List Int)), x15 + 1, v64, f65), Nat.lt_succ_self _, ⟨rfl, rfl, trivial⟩, ⟨[], List.Perm.refl _⟩, hd1, h66, trivial⟩
    · replace hd1 := sel_f e42 hd1; clear e42
      refine wg_exit ?_
      exact ⟨(fun _ => rfl), (le17.trans le23), (by repeat (first | exact off_self | refine off_upd rfl ?_ | refine off_setl rfl ?_ | refine off_mask_sub rfl ?_)), (x14, v18, f19), ⟨rfl, trivial⟩, ⟨[], List.Perm.refl _⟩, (Option.some.inj hd1).symm, (h20.mono le23), trivial⟩
  ·
    rintro ⟨o5, v8, f9⟩ j71 D72 R6 hD73 le7 ⟨rfl, h10, _⟩
    obtain rfl := hD73 rfl
    refine wg_seq ?_
    refine wg_region ?_
    refine wo_v rfl (val_move (v := v8) rfl) ?_
    refine wo_v rfl (val_assign (v := v8) rfl) ?_
    refine wo_nil ?_
    refine wg_freeze (i := 0) rfl h10 fun R74 le75 h76 => ?_
    have h77 : VRep (tSl false (tInt .i64)) R74 v8 o5 := (sl_f h76)
    refine wg_ret ?_
    obtain rfl := Option.some.inj hd0
    refine body_end (D := []) (J := []) (rs := [.tmp 4]) (vs := [v8]) ((le4.trans le7).trans le75) rfl rfl ⟨rfl, trivial⟩ ?_
    exact ⟨rfl, h77⟩
theorem en20 : Enters Try.prog 20 := enters_of Try.func20 rfl (by kernel_rfl)
theorem c_gauntletref04_Next {N : Nat} {R : RH} {m : Mach} {v_m : Value} (h_m : VRep (kMach false false) R v_m m) {s : Int} {i : Int} {r : Edge} (hd0 : gauntletref04_Next N m s i = some r) : CallP Try.prog 45 #[v_m, (.int .i64 s), (.int .i64 i)] R (fun v R' => v = (enc_Edge r)) := by
  refine callP_of_wg (args := [v_m, (.int .i64 s), (.int .i64 i)]) Try.func45 rfl rfl fun A => ?_
  rw [gauntletref04_Next] at hd0
  refine wg_seq ?_
  refine wg_region ?_
  refine wo_boxR (T := (kMach false false)) rfl rfl h_m fun v1 R3 le4 h2 => ?_
  refine wo_alloc rfl za40 fun b5 => ?_
  refine wo_nil ?_
  refine wg_seq ?_
  refine wg_seq ?_
  refine wg_region ?_
  refine wo_v rfl (val_move (v := (.int .i64 s)) rfl) ?_
  refine wo_v rfl (val_lss rfl rfl) ?_
  refine wo_nil ?_
  refine wg_cond rfl (fun e7 => ?_) (fun e7 => ?_)
  · replace hd0 := sel_t e7 hd0; clear e7
    refine wg_seq ?_
    refine wg_region ?_
    refine wo_v rfl (val_buildL (ps := [(0, (.int .i64 (-1))), (1, (.int .i64 (-1)))]) (v := (.agg #[(.int .i64 (-1)), (.int .i64 (-1))])) rfl (fun w => by kernel_rfl)) ?_
    refine wo_store (i := 0) (vs := [(.int .i64 (-1)), (.int .i64 (-1))]) sz40 rfl rfl rfl rfl rfl rfl (one_cons rfl (one_cons rfl one_nil)) ?_
    refine wo_nil ?_
    refine wg_ret ?_
    obtain rfl := Option.some.inj hd0
    refine body_end (D := []) (J := [box b5 [(.int .i64 (-1)), (.int .i64 (-1))] 40]) (rs := [.cell 6 40]) (vs := [(.agg #[(.int .i64 (-1)), (.int .i64 (-1))])]) le4 rfl rfl ⟨⟨_, rfl, fun w hh => run_cellA (i := 0) hh rfl rfl ag40 sz40 rfl rfl⟩, trivial⟩ ?_
    exact ⟨rfl, rfl⟩
  · replace hd0 := sel_f e7 hd0; clear e7
    refine wg_skip ?_
    refine wg_seq ?_
    refine wg_region ?_
    refine wo_fieldR rfl fd27_2 pt_Mach2 rfl h2 fun v8 h9 => ?_
    refine wo_loadR rfl ty25 rfl h9 fun v10 h11 => ?_
    refine wo_v rfl (val_move (v := (.int .i64 s)) rfl) ?_
    have g12 := (gd_some hd0).1; replace hd0 := (gd_some hd0).2
    refine wo_indexR (i := s.toNat) rfl sl25 rfl (sl_s h11) (idx_nonneg rfl g12.1) (okI_lt g12) fun v13 h14 => ?_
    refine wo_loadR rfl ty41 rfl h14 fun v15 h16 => ?_
    refine wo_v rfl (val_move (v := (.int .i64 i)) rfl) ?_
    have g17 := (gd_some hd0).1; replace hd0 := (gd_some hd0).2
    refine wo_indexR (i := i.toNat) rfl sl41 rfl (sl_s h16) (idx_nonneg rfl g17.1) (okI_lt g17) fun v18 h19 => ?_
    refine wo_loadR rfl ty40 rfl h19 fun v20 h21 => ?_
    obtain rfl := vrep_Edge.1 h21
    refine wo_store (i := 0) (vs := [(.int .i64 ((ix (ix m.rows s) i).to)), (.int .i64 ((ix (ix m.rows s) i).out))]) sz40 rfl rfl rfl rfl rfl rfl (one_cons rfl (one_cons rfl one_nil)) ?_
    refine wo_nil ?_
    refine wg_ret ?_
    obtain rfl := Option.some.inj hd0
    refine body_end (D := []) (J := [box b5 [(.int .i64 ((ix (ix m.rows s) i).to)), (.int .i64 ((ix (ix m.rows s) i).out))] 40]) (rs := [.cell 6 40]) (vs := [(.agg #[(.int .i64 ((ix (ix m.rows s) i).to)), (.int .i64 ((ix (ix m.rows s) i).out))])]) le4 rfl rfl ⟨⟨_, rfl, fun w hh => run_cellA (i := 0) hh rfl rfl ag40 sz40 rfl rfl⟩, trivial⟩ ?_
    exact ⟨rfl, rfl⟩
theorem en45 : Enters Try.prog 45 := enters_of Try.func45 rfl (by kernel_rfl)
theorem c_gauntletref04_Run {N : Nat} {R : RH} {m : Mach} {v_m : Value} (h_m : VRep (kMach false false) R v_m m) {s : Int} {w_ : (List Int)} {v_w_ : Value} (h_w_ : VRep (tSl false (tInt .i64)) R v_w_ w_) {r : (List Int)} (hd0 : gauntletref04_Run N m s w_ = some r) : CallP Try.prog 24 #[v_m, (.int .i64 s), v_w_] R (fun v R' => VRep (tSl false (tInt .i64)) R' v r) := by
  refine callP_of_wg (args := [v_m, (.int .i64 s), v_w_]) Try.func24 rfl rfl fun A => ?_
  rw [gauntletref04_Run] at hd0
  refine wg_seq ?_
  refine wg_region ?_
  refine wo_boxR (T := (kMach false false)) rfl rfl h_m fun v1 R3 le4 h2 => ?_
  refine wo_v rfl (val_assign (v := (.slice none 0 0)) rfl) ?_
  refine wo_nil ?_
  refine wg_seq ?_
  refine wg_region ?_
  refine wo_v rfl (val_assign (v := (.slice none 0 0)) rfl) ?_
  refine wo_nil ?_
  replace hd0 := bd_some hd0; obtain ⟨o5, hd1, hd0⟩ := hd0
  refine wg_meet (γ := (List Int) × Value × Frag) true [8, 10, 11, 12, 13, 16, 17, 18, 19, 20, 21, 22, 9, 23, 24, 25, 26, 27, 7, 28, 29, 1, 14, 15] (fun g => [(7, g.2.1)]) (fun g => [g.2.2] ++ A) (fun g R => o5 = g.1 ∧ ORep (tInt .i64) R g.2.2 g.2.1 g.1 ∧ True) ?_ ?_
  ·
    refine wg_seq ?_
    refine wg_region ?_
    refine wo_v rfl (val_assign (v := (.int .i64 0)) rfl) ?_
    refine wo_nil ?_
    refine wg_block ?_
    refine wg_emp ?_
    refine wg_loopS (γ := Nat × Int × (List Int) × Int × Value × Frag) true [10, 11, 12, 13, 16, 17, 18, 19, 20, 21, 22, 9, 23, 24, 25, 26, 27, 7, 28, 29, 1, 14, 15, 8] (fun g => [(1, (.int .i64 g.2.1)), (7, g.2.2.2.2.1), (8, (.int .i64 g.2.2.2.1))]) (fun g => [g.2.2.2.2.2] ++ A) (fun g R => gauntletref04_Run_L1 N m w_ g.1 g.2.1 g.2.2.1 g.2.2.2.1 = some o5 ∧ ORep (tInt .i64) R g.2.2.2.2.2 g.2.2.2.2.1 g.2.2.1 ∧ True) (fun g => g.1) (N, s, ([] : List Int), 0, (.slice none 0 0), emp) ⟨rfl, rfl, rfl, trivial⟩ ⟨[], List.Perm.refl _⟩ ⟨hd1, (orep_emp (T := (tInt .i64))), trivial⟩ (fun _ => rfl) ?_
    clear hd1
    rintro ⟨F13, x14, x15, x16, v19, f20⟩ j61 D62 R17 hD63 le18 ⟨hd1, h21, _⟩
    obtain rfl := hD63 rfl
    rcases F13 with _ | F13
    · exact none_elim hd1
    replace hd1 : gauntletref04_Run_L1 N m w_ (F13 + 1) x14 x15 x16 = some o5 := hd1; rw [gauntletref04_Run_L1] at hd1
    refine wg_seq ?_
    refine wg_seq ?_
    refine wg_region ?_
    refine wo_v rfl (val_move (v := (.int .i64 x16)) rfl) ?_
    refine wo_v rfl (val_move (v := v_w_) rfl) ?_
    refine wo_v rfl (val_lenR rfl Try.underlying49 rfl (sl_s (h_w_.mono (le4.trans le18)))) ?_
    refine wo_v rfl (val_lss rfl rfl) ?_
    refine wo_nil ?_
    refine wg_cond rfl (fun e23 => ?_) (fun e23 => ?_)
    · replace hd1 := sel_t e23 hd1; clear e23
      refine wg_skip ?_
      refine wg_seq ?_
      refine wg_block ?_
      refine wg_seq ?_
      have g24 := (gd_some hd1).1; replace hd1 := (gd_some hd1).2
      replace hd1 := bd_some hd1; obtain ⟨y25, c26, hd1⟩ := hd1
      refine wg_drawn 8 [⟨7, [.int .i64 0, .int .i64 0], 40⟩] [phR (kMach false false) m, phX (.int .i64 x14), phX v_w_, phX (.int .i64 x16), phP (tInt .i64) (ix w_ x16), phX (.int .i64 (ix w_ x16)), phX (enc_Edge y25), phB] mixed (by kernel_rfl) (monoOk_of ⟨mono_r, mono_x, mono_x, mono_x, mono_p, mono_x, mono_x, mono_b, trivial⟩) ⟨?_, ?_, ?_, ?_, ?_, ?_, ?_, ?_, trivial⟩ fun R27 le28 => ?_
      · intro l R0q hle ha hd
        have a3 : l 3 = v1 := ha 3 rfl
        exact gstep_plain rfl rfl rfl (ph_loadR ty27 a3 ((h2.mono le18).mono hle))
      · intro l R1q hle ha hd
        have a1 : l 1 = (.int .i64 x14) := ha 1 rfl
        exact gstep_plain rfl rfl rfl (ph_val (val_move a1))
      · intro l R2q hle ha hd
        have a2 : l 2 = v_w_ := ha 2 rfl
        exact gstep_plain rfl rfl rfl (ph_val (val_move a2))
      · intro l R3q hle ha hd
        have a8 : l 8 = (.int .i64 x16) := ha 8 rfl
        exact gstep_plain rfl rfl rfl (ph_val (val_move a8))
      · intro l R4q hle ha hd
        obtain ⟨d0, d1, _⟩ := hd
        have f18 : l 18 = v_w_ := d0 rfl
        have f19 : l 19 = (.int .i64 x16) := d1 rfl
        exact gstep_plain rfl rfl rfl (ph_indexR (i := x16.toNat) sl49 f18 (sl_s ((h_w_.mono (le4.trans le18)).mono hle)) (idx_nonneg f19 g24.1) (okI_lt g24))
      · intro l R5q hle ha hd
        obtain ⟨d0, _⟩ := hd
        have f20 : phP (tInt .i64) (ix w_ x16) (l 20) R5q := d0 rfl
        exact gstep_plain rfl rfl rfl (ph_exact (ph_loadR ty3 rfl f20) (fun _ _ h => vrep_int.1 h))
      · intro l R6q hle ha hd
        obtain ⟨d0, d1, d2, _⟩ := hd
        have f16 : phR (kMach false false) m (l 16) R6q := d0 rfl
        have f17 : l 17 = (.int .i64 x14) := d1 rfl
        have f21 : l 21 = (.int .i64 (ix w_ x16)) := d2 rfl
        exact gstep_plain rfl rfl rfl (ph_callP en45 (by simp only [List.map, ev, f17, f21] <;> rfl) (c_gauntletref04_Next f16 c26) (fun _ _ h => h))
      · intro l R7q hle ha hd
        exact gstep_new rfl rfl rfl rfl za40
      intro v29 h30
      intro v31 h32
      intro v33 h34
      intro v35 h36
      intro v37 h38
      intro v39 h40
      intro v41 h42
      intro v43 h44
      obtain rfl := Eq.symm h32
      obtain rfl := Eq.symm h34
      obtain rfl := Eq.symm h36
      obtain rfl := Eq.symm h40
      obtain rfl := Eq.symm h42
      obtain ⟨b45, rfl⟩ := h44
      refine wo_store (i := 0) (vs := [(.int .i64 y25.to), (.int .i64 y25.out)]) sz40 rfl rfl rfl rfl rfl rfl (one_cons rfl (one_cons rfl one_nil)) ?_
      refine wo_nil ?_
      refine wg_seq ?_
      refine wg_region ?_
      refine wo_v rfl (val_move (v := v19) rfl) ?_
      refine wo_v rfl (val_fieldB fd40_1 rfl) ?_
      refine wo_v rfl (val_loadB (i := 0) ag3 rfl rfl rfl) ?_
      refine wo_lit (T := (tInt .i64)) (X := ([y25.out] : List Int)) (ps := [(0, (.int .i64 y25.out))]) (css := [[(.int .i64 y25.out)]]) rfl Try.underlying49 zo3 rfl rfl (lit_reps ⟨rfl, trivial⟩) rfl rfl (by decide) fun v47 f48 cap49 h50 => ?_
      refine wo_freeze (i := 0) rfl h50 fun R52 le53 h54 => ?_
      have h55 : VRep (tSl true (tInt .i64)) R52 v47 ([y25.out] : List Int) := (sl_t h54 cap49)
      have g56 := (gd_some hd1).1; replace hd1 := (gd_some hd1).2
      refine wo_append (i := 1) (X := x15) (Y := ([y25.out] : List Int)) rfl Try.underlying49 zo3 rfl rfl rfl (h21.mono (le28.trans le53)) (sl_s (Sub.v (B := (tSl false (tInt .i64))) (sub_sl Sub.refl (fun _ => rfl)) h55)) g56.1 g56.2 fun v57 f58 h59 => ?_
      refine wo_v rfl (val_assign (v := v57) rfl) ?_
      refine wo_nil ?_
      refine wg_region ?_
      refine wo_v rfl (val_fieldB fd40_0 rfl) ?_
      refine wo_v rfl (val_loadB (i := 0) ag3 rfl rfl rfl) ?_
      refine wo_v rfl (val_assign (v := (.int .i64 y25.to)) rfl) ?_
      refine wo_nil ?_
      refine wg_region ?_
      refine wo_v rfl (val_move (v := (.int .i64 x16)) rfl) ?_
      have g60 := (gd_some hd1).1; replace hd1 := (gd_some hd1).2
      refine wo_v rfl (val_add rfl rfl g60) ?_
      refine wo_v rfl (val_assign (v := (.int .i64 (x16 + 1))) rfl) ?_
      refine wo_nil ?_
      exact ⟨(fun _ => rfl), (le28.trans le53), (by repeat (first | exact off_self | refine off_upd rfl ?_ | refine off_setl rfl ?_ | refine off_mask_sub rfl ?_)), (F13, y25.to, (x15 ++ ([y25.out] : List Int)), x16 + 1, v57, f58), Nat.lt_succ_self _, ⟨rfl, rfl, rfl, trivial⟩, ⟨[box b45 [(.int .i64 y25.to), (.int .i64 y25.out)] 40], (List.Perm.refl _)⟩, hd1, h59, trivial⟩
    · replace hd1 := sel_f e23 hd1; clear e23
      refine wg_exit ?_
      exact ⟨(fun _ => rfl), le18, (by repeat (first | exact off_self | refine off_upd rfl ?_ | refine off_setl rfl ?_ | refine off_mask_sub rfl ?_)), (x15, v19, f20), ⟨rfl, trivial⟩, ⟨[], List.Perm.refl _⟩, (Option.some.inj hd1).symm, h21, trivial⟩
  ·
    rintro ⟨o5, v8, f9⟩ j64 D65 R6 hD66 le7 ⟨rfl, h10, _⟩
    obtain rfl := hD66 rfl
    refine wg_seq ?_
    refine wg_region ?_
    refine wo_v rfl (val_move (v := v8) rfl) ?_
    refine wo_v rfl (val_assign (v := v8) rfl) ?_
    refine wo_nil ?_
    refine wg_freeze (i := 0) rfl h10 fun R67 le68 h69 => ?_
    have h70 : VRep (tSl false (tInt .i64)) R67 v8 o5 := (sl_f h69)
    refine wg_ret ?_
    obtain rfl := Option.some.inj hd0
    refine body_end (D := []) (J := []) (rs := [.tmp 6]) (vs := [v8]) ((le4.trans le7).trans le68) rfl rfl ⟨rfl, trivial⟩ ?_
    exact ⟨rfl, h70⟩
theorem en25 : Enters Try.prog 25 := enters_of Try.func25 rfl (by kernel_rfl)
theorem c_gauntletref04_After_rec {N : Nat} (F : Nat) : ∀ {R : RH} {m : Mach} {v_m : Value} (h_m : VRep (kMach false false) R v_m m) {s : Int} {w_ : (List Int)} {v_w_ : Value} (h_w_ : VRep (tSl false (tInt .i64)) R v_w_ w_) {r : Int} (hd0 : gauntletref04_After N F m s w_ = some r), CallP Try.prog 25 #[v_m, (.int .i64 s), v_w_] R (fun v R' => v = (.int .i64 r)) := by
  induction F with
  | zero => intros; rename_i hd0; exact none_elim hd0
  | succ F ih =>
    intro R m v_m h_m s w_ v_w_ h_w_ r hd0
    refine callP_of_wg (args := [v_m, (.int .i64 s), v_w_]) Try.func25 rfl rfl fun A => ?_
    rw [gauntletref04_After] at hd0
    refine wg_seq ?_
    refine wg_region ?_
    refine wo_boxR (T := (kMach false false)) rfl rfl h_m fun v1 R3 le4 h2 => ?_
    refine wo_v rfl (val_assign (v := (.int .i64 0)) rfl) ?_
    refine wo_nil ?_
    refine wg_seq ?_
    refine wg_seq ?_
    refine wg_region ?_
    refine wo_v rfl (val_move (v := v_w_) rfl) ?_
    refine wo_v rfl (val_lenR rfl Try.underlying49 rfl (sl_s (h_w_.mono le4))) ?_
    refine wo_v rfl (val_eql rfl rfl) ?_
    refine wo_nil ?_
    refine wg_cond rfl (fun e5 => ?_) (fun e5 => ?_)
    · replace hd0 := sel_t e5 hd0; clear e5
      refine wg_seq ?_
      refine wg_region ?_
      refine wo_v rfl (val_move (v := (.int .i64 s)) rfl) ?_
      refine wo_v rfl (val_assign (v := (.int .i64 s)) rfl) ?_
      refine wo_nil ?_
      refine wg_ret ?_
      obtain rfl := Option.some.inj hd0
      refine body_end (D := []) (J := []) (rs := [.tmp 6]) (vs := [(.int .i64 s)]) le4 rfl rfl ⟨rfl, trivial⟩ ?_
      exact ⟨rfl, rfl⟩
    · replace hd0 := sel_f e5 hd0; clear e5
      refine wg_skip ?_
      refine wg_seq ?_
      have g6 := (gd_some hd0).1; replace hd0 := (gd_some hd0).2
      replace hd0 := bd_some hd0; obtain ⟨y7, c8, hd0⟩ := hd0
      have g9 := (gd_some hd0).1; replace hd0 := (gd_some hd0).2
      replace hd0 := bd_some hd0; obtain ⟨y10, c11, hd0⟩ := hd0
      refine wg_drawn 12 [] [phR (kMach false false) m, phR (kMach false false) m, phX (.int .i64 s), phX v_w_, phP (tInt .i64) (ix w_ 0), phX (.int .i64 (ix w_ 0)), phX (enc_Edge y7), phX (.int .i64 y7.to), phX v_w_, phR (tSl false (tInt .i64)) (cut w_ 1 (↑w_.length : Int)), phX (.int .i64 y10), phX (.int .i64 y10)] mixed (by kernel_rfl) (monoOk_of ⟨mono_r, mono_r, mono_x, mono_x, mono_p, mono_x, mono_x, mono_x, mono_x, mono_r, mono_x, mono_x, trivial⟩) ⟨?_, ?_, ?_, ?_, ?_, ?_, ?_, ?_, ?_, ?_, ?_, ?_, trivial⟩ fun R12 le13 => ?_
      · intro l R0q hle ha hd
        have a3 : l 3 = v1 := ha 3 rfl
        exact gstep_plain rfl rfl rfl (ph_loadR ty27 a3 (h2.mono hle))
      · intro l R1q hle ha hd
        have a3 : l 3 = v1 := ha 3 rfl
        exact gstep_plain rfl rfl rfl (ph_loadR ty27 a3 (h2.mono hle))
      · intro l R2q hle ha hd
        have a1 : l 1 = (.int .i64 s) := ha 1 rfl
        exact gstep_plain rfl rfl rfl (ph_val (val_move a1))
      · intro l R3q hle ha hd
        have a2 : l 2 = v_w_ := ha 2 rfl
        exact gstep_plain rfl rfl rfl (ph_val (val_move a2))
      · intro l R4q hle ha hd
        obtain ⟨d0, _⟩ := hd
        have f14 : l 14 = v_w_ := d0 rfl
        exact gstep_plain rfl rfl rfl (ph_indexR (i := (0 : Int).toNat) sl49 f14 (sl_s ((h_w_.mono le4).mono hle)) (idx_nonneg rfl g6.1) (okI_lt g6))
      · intro l R5q hle ha hd
        obtain ⟨d0, _⟩ := hd
        have f15 : phP (tInt .i64) (ix w_ 0) (l 15) R5q := d0 rfl
        exact gstep_plain rfl rfl rfl (ph_exact (ph_loadR ty3 rfl f15) (fun _ _ h => vrep_int.1 h))
      · intro l R6q hle ha hd
        obtain ⟨d0, d1, d2, _⟩ := hd
        have f12 : phR (kMach false false) m (l 12) R6q := d0 rfl
        have f13 : l 13 = (.int .i64 s) := d1 rfl
        have f16 : l 16 = (.int .i64 (ix w_ 0)) := d2 rfl
        exact gstep_plain rfl rfl rfl (ph_callP en45 (by simp only [List.map, ev, f13, f16] <;> rfl) (c_gauntletref04_Next f12 c8) (fun _ _ h => h))
      · intro l R7q hle ha hd
        obtain ⟨d0, _⟩ := hd
        have f17 : l 17 = (enc_Edge y7) := d0 rfl
        exact gstep_plain rfl rfl rfl (ph_val (val_field (v := (enc_Edge y7)) (u := (.int .i64 y7.to)) f17 (fun w => by kernel_rfl)))
      · intro l R8q hle ha hd
        have a2 : l 2 = v_w_ := ha 2 rfl
        exact gstep_plain rfl rfl rfl (ph_val (val_move a2))
      · intro l R9q hle ha hd
        obtain ⟨d0, _⟩ := hd
        have f19 : l 19 = v_w_ := d0 rfl
        exact gstep_plain rfl rfl rfl (ph_sliceF (lo := (1 : Int).toNat) (hi := (↑w_.length : Int).toNat) (mx := (capOf v_w_)) (X' := (cut w_ 1 (↑w_.length : Int))) sl49 f19 (sl_s ((h_w_.mono le4).mono hle)) (.inr ⟨_, congrArg some (idx_nonneg rfl g9.1)⟩) (.inl ⟨rfl, rfl, rfl⟩) (.inl ⟨rfl, rfl⟩) (okS_1 g9) (okS_2 g9) (fun h => Nat.le_trans (okS_2 g9) h) (fun _ => Nat.le_refl _) rfl)
      · intro l R10q hle ha hd
        obtain ⟨d0, d1, d2, d3, _⟩ := hd
        have f11 : phR (kMach false false) m (l 11) R10q := d0 rfl
        have f18 : l 18 = (.int .i64 y7.to) := d1 rfl
        have f20 : phR (tSl false (tInt .i64)) (cut w_ 1 (↑w_.length : Int)) (l 20) R10q := d2 rfl
        exact gstep_plain rfl rfl rfl (ph_callP en25 (by simp only [List.map, ev, f18] <;> rfl) (ih f11 f20 c11) (fun _ _ h => h))
      · intro l R11q hle ha hd
        obtain ⟨d0, d1, d2, d3, d4, d5, d6, d7, d8, d9, d10, d11, d12, _⟩ := hd
        have f21 : l 21 = (.int .i64 y10) := d0 rfl
        exact gstep_plain rfl rfl rfl (ph_val (val_assign f21))
      intro v14 h15
      intro v16 h17
      intro v18 h19
      intro v20 h21
      intro v22 h23
      intro v24 h25
      intro v26 h27
      intro v28 h29
      intro v30 h31
      intro v32 h33
      intro v34 h35
      intro v36 h37
      obtain rfl := Eq.symm h19
      obtain rfl := Eq.symm h21
      obtain rfl := Eq.symm h25
      obtain rfl := Eq.symm h27
      obtain rfl := Eq.symm h29
      obtain rfl := Eq.symm h31
      obtain rfl := Eq.symm h35
      obtain rfl := Eq.symm h37
      refine wo_nil ?_
      refine wg_ret ?_
      obtain rfl := Option.some.inj hd0
      refine body_end (D := []) (J := []) (rs := [.tmp 6]) (vs := [(.int .i64 y10)]) (le4.trans le13) rfl rfl ⟨rfl, trivial⟩ ?_
      exact ⟨rfl, rfl⟩
theorem c_gauntletref04_After {N : Nat} {R : RH} {m : Mach} {v_m : Value} (h_m : VRep (kMach false false) R v_m m) {s : Int} {w_ : (List Int)} {v_w_ : Value} (h_w_ : VRep (tSl false (tInt .i64)) R v_w_ w_) {r : Int} (hd0 : gauntletref04_After N N m s w_ = some r) : CallP Try.prog 25 #[v_m, (.int .i64 s), v_w_] R (fun v R' => v = (.int .i64 r)) := c_gauntletref04_After_rec N h_m h_w_ hd0
theorem en24 : Enters Try.prog 24 := enters_of Try.func24 rfl (by kernel_rfl)
theorem c_gauntletlaw04_great {N : Nat} {R : RH} {m : Mach} {v_m : Value} (h_m : VRep (kMach false false) R v_m m) {r : Int} (hd0 : gauntletlaw04_great N m = some r) : CallP Try.prog 29 #[v_m] R (fun v R' => v = (.int .i64 r)) := by
  refine callP_of_wg (args := [v_m]) Try.func29 rfl rfl fun A => ?_
  rw [gauntletlaw04_great] at hd0
  refine wg_seq ?_
  refine wg_region ?_
  refine wo_boxR (T := (kMach false false)) rfl rfl h_m fun v1 R3 le4 h2 => ?_
  refine wo_v rfl (val_assign (v := (.int .i64 0)) rfl) ?_
  refine wo_nil ?_
  refine wg_seq ?_
  refine wg_seq ?_
  refine wg_region ?_
  refine wo_fieldR rfl fd27_2 pt_Mach2 rfl h2 fun v5 h6 => ?_
  refine wo_loadR rfl ty25 rfl h6 fun v7 h8 => ?_
  refine wo_v rfl (val_lenR rfl Try.underlying25 rfl (sl_s h8)) ?_
  refine wo_v rfl (val_gtr rfl rfl) ?_
  refine wo_nil ?_
  refine wg_cond rfl (fun e9 => ?_) (fun e9 => ?_)
  · replace hd0 := sel_t e9 hd0; clear e9
    refine wg_seq ?_
    refine wg_region ?_
    refine wo_v rfl (val_assign (v := (.int .i64 1)) rfl) ?_
    refine wo_nil ?_
    refine wg_ret ?_
    obtain rfl := Option.some.inj hd0
    refine body_end (D := []) (J := []) (rs := [.tmp 2]) (vs := [(.int .i64 1)]) le4 rfl rfl ⟨rfl, trivial⟩ ?_
    exact ⟨rfl, rfl⟩
  · replace hd0 := sel_f e9 hd0; clear e9
    refine wg_skip ?_
    replace hd0 := bd_some hd0; obtain ⟨q11, hd1, hd0⟩ := hd0
    refine wg_meet (γ := Unit) true [3, 8, 9, 10, 11, 12, 15, 16, 17, 18, 19, 20, 21, 2, 13, 14] (fun g => []) (fun g => [] ++ A) (fun g R => q11 = Ex.go g ∧ True) ?_ ?_
    ·
      refine wg_seq ?_
      refine wg_region ?_
      refine wo_v rfl (val_assign (v := (.int .i64 0)) rfl) ?_
      refine wo_nil ?_
      refine wg_block ?_
      refine wg_loopS (γ := Nat × Int) true [8, 9, 10, 11, 12, 15, 16, 17, 18, 19, 20, 21, 2, 13, 14, 3] (fun g => [(3, (.int .i64 g.2))]) (fun g => [] ++ A) (fun g R => gauntletlaw04_great_L1 N m g.1 g.2 = some q11 ∧ True) (fun g => g.1) (N, 0) ⟨rfl, trivial⟩ ⟨[], List.Perm.refl _⟩ ⟨hd1, trivial⟩ (fun _ => rfl) ?_
      clear hd1
      rintro ⟨F14, x15⟩ j34 D35 R16 hD36 le17 ⟨hd1, _⟩
      obtain rfl := hD36 rfl
      rcases F14 with _ | F14
      · exact none_elim hd1
      replace hd1 : gauntletlaw04_great_L1 N m (F14 + 1) x15 = some q11 := hd1; rw [gauntletlaw04_great_L1] at hd1
      refine wg_seq ?_
      refine wg_seq ?_
      refine wg_region ?_
      refine wo_v rfl (val_move (v := (.int .i64 x15)) rfl) ?_
      refine wo_fieldR rfl fd27_2 pt_Mach2 rfl (h2.mono le17) fun v18 h19 => ?_
      refine wo_loadR rfl ty25 rfl h19 fun v20 h21 => ?_
      refine wo_v rfl (val_lenR rfl Try.underlying25 rfl (sl_s h21)) ?_
      refine wo_v rfl (val_lss rfl rfl) ?_
      refine wo_nil ?_
      refine wg_cond rfl (fun e22 => ?_) (fun e22 => ?_)
      · replace hd1 := sel_t e22 hd1; clear e22
        refine wg_skip ?_
        refine wg_seq ?_
        refine wg_block ?_
        refine wg_seq ?_
        refine wg_region ?_
        refine wo_fieldR rfl fd27_2 pt_Mach2 rfl (h2.mono le17) fun v23 h24 => ?_
        refine wo_loadR rfl ty25 rfl h24 fun v25 h26 => ?_
        refine wo_v rfl (val_move (v := (.int .i64 x15)) rfl) ?_
        have g27 := (gd_some hd1).1; replace hd1 := (gd_some hd1).2
        refine wo_indexR (i := x15.toNat) rfl sl25 rfl (sl_s h26) (idx_nonneg rfl g27.1) (okI_lt g27) fun v28 h29 => ?_
        refine wo_loadR rfl ty41 rfl h29 fun v30 h31 => ?_
        refine wo_v rfl (val_lenR rfl Try.underlying41 rfl (sl_s h31)) ?_
        refine wo_v rfl (val_gtr rfl rfl) ?_
        refine wo_nil ?_
        refine wg_cond rfl (fun e32 => ?_) (fun e32 => ?_)
        · replace hd1 := sel_t e32 hd1; clear e32
          refine wg_seq ?_
          refine wg_region ?_
          refine wo_v rfl (val_assign (v := (.int .i64 1)) rfl) ?_
          refine wo_nil ?_
          refine wg_ret ?_
          replace hd0 := on_rt hd1 hd0
          obtain rfl := Option.some.inj hd0
          refine body_end (D := []) (J := []) (rs := [.tmp 2]) (vs := [(.int .i64 1)]) (le4.trans le17) rfl rfl ⟨rfl, trivial⟩ ?_
          exact ⟨rfl, rfl⟩
        · replace hd1 := sel_f e32 hd1; clear e32
          refine wg_skip ?_
          refine wg_region ?_
          refine wo_v rfl (val_move (v := (.int .i64 x15)) rfl) ?_
          have g33 := (gd_some hd1).1; replace hd1 := (gd_some hd1).2
          refine wo_v rfl (val_add rfl rfl g33) ?_
          refine wo_v rfl (val_assign (v := (.int .i64 (x15 + 1))) rfl) ?_
          refine wo_nil ?_
          exact ⟨(fun _ => rfl), (RH.le.refl _), (by repeat (first | exact off_self | refine off_upd rfl ?_ | refine off_setl rfl ?_ | refine off_mask_sub rfl ?_)), (F14, x15 + 1), Nat.lt_succ_self _, ⟨rfl, trivial⟩, ⟨[], List.Perm.refl _⟩, hd1, trivial⟩
      · replace hd1 := sel_f e22 hd1; clear e22
        refine wg_exit ?_
        exact ⟨(fun _ => rfl), le17, (by repeat (first | exact off_self | refine off_upd rfl ?_ | refine off_setl rfl ?_ | refine off_mask_sub rfl ?_)), (), trivial, ⟨[], List.Perm.refl _⟩, (Option.some.inj hd1).symm, trivial⟩
    ·
      rintro o10 j37 D38 R12 hD39 le13 ⟨rfl, _⟩
      obtain rfl := hD39 rfl
      replace hd0 := on_go hd0
      refine wg_seq ?_
      refine wg_region ?_
      refine wo_v rfl (val_assign (v := (.int .i64 0)) rfl) ?_
      refine wo_nil ?_
      refine wg_ret ?_
      obtain rfl := Option.some.inj hd0
      refine body_end (D := []) (J := []) (rs := [.tmp 2]) (vs := [(.int .i64 0)]) (le4.trans le13) rfl rfl ⟨rfl, trivial⟩ ?_
      exact ⟨rfl, rfl⟩
theorem en29 : Enters Try.prog 29 := enters_of Try.func29 rfl (by kernel_rfl)
theorem c_gauntletref04_Check {N : Nat} {R : RH} {m : Mach} {v_m : Value} (h_m : VRep (kMach false false) R v_m m) {r : Int} (hd0 : gauntletref04_Check N m = some r) : CallP Try.prog 30 #[v_m] R (fun v R' => v = (.int .i64 r)) := by
  refine callP_of_wg (args := [v_m]) Try.func30 rfl rfl fun A => ?_
  rw [gauntletref04_Check] at hd0
  refine wg_seq ?_
  refine wg_region ?_
  refine wo_boxR (T := (kMach false false)) rfl rfl h_m fun v1 R3 le4 h2 => ?_
  refine wo_v rfl (val_assign (v := (.int .i64 0)) rfl) ?_
  refine wo_nil ?_
  refine wg_seq ?_
  refine wg_seq ?_
  refine wg_guarded 14 [] [phP (tInt .i64) m.inputs, phX (.int .i64 m.inputs), phX (.bool (decide (16 < m.inputs))), phX (.bool (decide (16 < m.inputs))), phG (true && ((decide (16 < m.inputs)) == false)) (phP (tInt .i64) m.outputs), phG (true && ((decide (16 < m.inputs)) == false)) (phX (.int .i64 m.outputs)), phG (true && ((decide (16 < m.inputs)) == false)) (phX (.bool (decide (16 < m.outputs)))), phX (.bool ((decide (16 < m.inputs)) || (decide (16 < m.outputs)))), phX (.bool ((decide (16 < m.inputs)) || (decide (16 < m.outputs)))), phG (true && (((decide (16 < m.inputs)) || (decide (16 < m.outputs))) == false)) (phP (tSl false (tSl false kEdge)) m.rows), phG (true && (((decide (16 < m.inputs)) || (decide (16 < m.outputs))) == false)) (phR (tSl false (tSl false kEdge)) m.rows), phG (true && (((decide (16 < m.inputs)) || (decide (16 < m.outputs))) == false)) (phX (.int .i64 (↑m.rows.length : Int))), phG (true && (((decide (16 < m.inputs)) || (decide (16 < m.outputs))) == false)) (phX (.bool (decide (64 < (↑m.rows.length : Int))))), phX (.bool (((decide (16 < m.inputs)) || (decide (16 < m.outputs))) || (decide (64 < (↑m.rows.length : Int)))))] (by kernel_rfl) (by kernel_rfl) (monoOk_of ⟨mono_p, mono_x, mono_x, mono_x, (mono_g mono_p), (mono_g mono_x), (mono_g mono_x), mono_x, mono_x, (mono_g mono_p), (mono_g mono_r), (mono_g mono_x), (mono_g mono_x), mono_x, trivial⟩) ⟨?_, ?_, ?_, ?_, ?_, ?_, ?_, ?_, ?_, ?_, ?_, ?_, ?_, ?_, trivial⟩ fun R5 le6 => ?_
  · intro l R0q hle ha hd
    have a1 : l 1 = v1 := ha 1 rfl
    exact gstep_plain rfl rfl rfl (ph_fieldR fd27_0 pt_Mach0 a1 (h2.mono hle))
  · intro l R1q hle ha hd
    obtain ⟨d0, _⟩ := hd
    have f6 : phP (tInt .i64) m.inputs (l 6) R1q := d0 rfl
    exact gstep_plain rfl rfl rfl (ph_exact (ph_loadR ty3 rfl f6) (fun _ _ h => vrep_int.1 h))
  · intro l R2q hle ha hd
    obtain ⟨d0, _⟩ := hd
    have f7 : l 7 = (.int .i64 m.inputs) := d0 rfl
    exact gstep_plain rfl rfl rfl (ph_val (val_gtr f7 rfl))
  · intro l R3q hle ha hd
    obtain ⟨d0, _⟩ := hd
    have f8 : l 8 = (.bool (decide (16 < m.inputs))) := d0 rfl
    exact gstep_plain rfl rfl rfl (ph_val (val_move f8))
  · intro l R4q hle ha hd
    obtain ⟨d0, _⟩ := hd
    have a1 : l 1 = v1 := ha 1 rfl
    exact gstep_guard (Gj := true) (Bj := decide (16 < m.inputs)) rfl rfl rfl (gtrue (d0 rfl)) rfl (fun hG hB => ph_fieldR fd27_1 pt_Mach1 a1 (h2.mono hle))
  · intro l R5q hle ha hd
    obtain ⟨d0, d1, _⟩ := hd
    have f10g : phG (true && ((decide (16 < m.inputs)) == false)) (phP (tInt .i64) m.outputs) (l 10) R5q := d0 rfl
    exact gstep_guard (Gj := true) (Bj := decide (16 < m.inputs)) rfl rfl rfl (gtrue (d1 rfl)) rfl (fun hG hB => ph_exact (ph_loadR ty3 rfl (f10g.1 (gandT rfl hB))) (fun _ _ h => vrep_int.1 h))
  · intro l R6q hle ha hd
    obtain ⟨d0, d1, _⟩ := hd
    have f11g : phG (true && ((decide (16 < m.inputs)) == false)) (phX (.int .i64 m.outputs)) (l 11) R6q := d0 rfl
    exact gstep_guard (Gj := true) (Bj := decide (16 < m.inputs)) rfl rfl rfl (gtrue (d1 rfl)) rfl (fun hG hB => ph_val (val_gtr (show l 11 = (.int .i64 m.outputs) from f11g.1 (gandT rfl hB)) rfl))
  · intro l R7q hle ha hd
    obtain ⟨d0, d1, _⟩ := hd
    have f9 : l 9 = (.bool (decide (16 < m.inputs))) := d0 rfl
    have f12g : phG (true && ((decide (16 < m.inputs)) == false)) (phX (.bool (decide (16 < m.outputs)))) (l 12) R7q := d1 rfl
    exact gstep_plain rfl rfl rfl (ph_val (val_or f9 rfl (fun hb => (show l 12 = (.bool (decide (16 < m.outputs))) from f12g.1 (gandT rfl hb)))))
  · intro l R8q hle ha hd
    obtain ⟨d0, d1, _⟩ := hd
    have f13 : l 13 = (.bool ((decide (16 < m.inputs)) || (decide (16 < m.outputs)))) := d0 rfl
    exact gstep_plain rfl rfl rfl (ph_val (val_move f13))
  · intro l R9q hle ha hd
    obtain ⟨d0, _⟩ := hd
    have a1 : l 1 = v1 := ha 1 rfl
    exact gstep_guard (Gj := true) (Bj := (decide (16 < m.inputs)) || (decide (16 < m.outputs))) rfl rfl rfl (gtrue (d0 rfl)) rfl (fun hG hB => ph_fieldR fd27_2 pt_Mach2 a1 (h2.mono hle))
  · intro l R10q hle ha hd
    obtain ⟨d0, d1, _⟩ := hd
    have f15g : phG (true && (((decide (16 < m.inputs)) || (decide (16 < m.outputs))) == false)) (phP (tSl false (tSl false kEdge)) m.rows) (l 15) R10q := d0 rfl
    exact gstep_guard (Gj := true) (Bj := (decide (16 < m.inputs)) || (decide (16 < m.outputs))) rfl rfl rfl (gtrue (d1 rfl)) rfl (fun hG hB => ph_loadR ty25 rfl (f15g.1 (gandT rfl hB)))
  · intro l R11q hle ha hd
    obtain ⟨d0, d1, _⟩ := hd
    have f16g : phG (true && (((decide (16 < m.inputs)) || (decide (16 < m.outputs))) == false)) (phR (tSl false (tSl false kEdge)) m.rows) (l 16) R11q := d0 rfl
    exact gstep_guard (Gj := true) (Bj := (decide (16 < m.inputs)) || (decide (16 < m.outputs))) rfl rfl rfl (gtrue (d1 rfl)) rfl (fun hG hB => ph_val (val_lenR rfl Try.underlying25 rfl (sl_s (f16g.1 (gandT rfl hB)))))
  · intro l R12q hle ha hd
    obtain ⟨d0, d1, _⟩ := hd
    have f17g : phG (true && (((decide (16 < m.inputs)) || (decide (16 < m.outputs))) == false)) (phX (.int .i64 (↑m.rows.length : Int))) (l 17) R12q := d0 rfl
    exact gstep_guard (Gj := true) (Bj := (decide (16 < m.inputs)) || (decide (16 < m.outputs))) rfl rfl rfl (gtrue (d1 rfl)) rfl (fun hG hB => ph_val (val_gtr (show l 17 = (.int .i64 (↑m.rows.length : Int)) from f17g.1 (gandT rfl hB)) rfl))
  · intro l R13q hle ha hd
    obtain ⟨d0, d1, _⟩ := hd
    have f14 : l 14 = (.bool ((decide (16 < m.inputs)) || (decide (16 < m.outputs)))) := d0 rfl
    have f18g : phG (true && (((decide (16 < m.inputs)) || (decide (16 < m.outputs))) == false)) (phX (.bool (decide (64 < (↑m.rows.length : Int))))) (l 18) R13q := d1 rfl
    exact gstep_plain rfl rfl rfl (ph_val (val_or f14 rfl (fun hb => (show l 18 = (.bool (decide (64 < (↑m.rows.length : Int)))) from f18g.1 (gandT rfl hb)))))
  intro v7 h8
  intro v9 h10
  intro v11 h12
  intro v13 h14
  intro v15 h16
  intro v17 h18
  intro v19 h20
  intro v21 h22
  intro v23 h24
  intro v25 h26
  intro v27 h28
  intro v29 h30
  intro v31 h32
  intro v33 h34
  obtain rfl := Eq.symm h10
  obtain rfl := Eq.symm h12
  obtain rfl := Eq.symm h14
  obtain rfl := Eq.symm h22
  obtain rfl := Eq.symm h24
  obtain rfl := Eq.symm h34
  refine wo_nil ?_
  refine wg_cond rfl (fun e35 => ?_) (fun e35 => ?_)
  · replace hd0 := sel_t e35 hd0; clear e35
    refine wg_seq ?_
    refine wg_region ?_
    refine wo_v rfl (val_assign (v := (.int .i64 3)) rfl) ?_
    refine wo_nil ?_
    refine wg_ret ?_
    obtain rfl := Option.some.inj hd0
    refine body_end (D := []) (J := []) (rs := [.tmp 2]) (vs := [(.int .i64 3)]) (le4.trans le6) rfl rfl ⟨rfl, trivial⟩ ?_
    exact ⟨rfl, rfl⟩
  · replace hd0 := sel_f e35 hd0; clear e35
    refine wg_skip ?_
    refine wg_seq ?_
    refine wg_seq ?_
    refine wg_guarded 14 [] [phP (tInt .i64) m.inputs, phX (.int .i64 m.inputs), phX (.bool (decide (m.inputs < 1))), phX (.bool (decide (m.inputs < 1))), phG (true && ((decide (m.inputs < 1)) == false)) (phP (tInt .i64) m.outputs), phG (true && ((decide (m.inputs < 1)) == false)) (phX (.int .i64 m.outputs)), phG (true && ((decide (m.inputs < 1)) == false)) (phX (.bool (decide (m.outputs < 1)))), phX (.bool ((decide (m.inputs < 1)) || (decide (m.outputs < 1)))), phX (.bool ((decide (m.inputs < 1)) || (decide (m.outputs < 1)))), phG (true && (((decide (m.inputs < 1)) || (decide (m.outputs < 1))) == false)) (phP (tSl false (tSl false kEdge)) m.rows), phG (true && (((decide (m.inputs < 1)) || (decide (m.outputs < 1))) == false)) (phR (tSl false (tSl false kEdge)) m.rows), phG (true && (((decide (m.inputs < 1)) || (decide (m.outputs < 1))) == false)) (phX (.int .i64 (↑m.rows.length : Int))), phG (true && (((decide (m.inputs < 1)) || (decide (m.outputs < 1))) == false)) (phX (.bool (decide ((↑m.rows.length : Int) = 0)))), phX (.bool (((decide (m.inputs < 1)) || (decide (m.outputs < 1))) || (decide ((↑m.rows.length : Int) = 0))))] (by kernel_rfl) (by kernel_rfl) (monoOk_of ⟨mono_p, mono_x, mono_x, mono_x, (mono_g mono_p), (mono_g mono_x), (mono_g mono_x), mono_x, mono_x, (mono_g mono_p), (mono_g mono_r), (mono_g mono_x), (mono_g mono_x), mono_x, trivial⟩) ⟨?_, ?_, ?_, ?_, ?_, ?_, ?_, ?_, ?_, ?_, ?_, ?_, ?_, ?_, trivial⟩ fun R36 le37 => ?_
    · intro l R0q hle ha hd
      have a1 : l 1 = v1 := ha 1 rfl
      exact gstep_plain rfl rfl rfl (ph_fieldR fd27_0 pt_Mach0 a1 ((h2.mono le6).mono hle))
    · intro l R1q hle ha hd
      obtain ⟨d0, _⟩ := hd
      have f20 : phP (tInt .i64) m.inputs (l 20) R1q := d0 rfl
      exact gstep_plain rfl rfl rfl (ph_exact (ph_loadR ty3 rfl f20) (fun _ _ h => vrep_int.1 h))
    · intro l R2q hle ha hd
      obtain ⟨d0, _⟩ := hd
      have f21 : l 21 = (.int .i64 m.inputs) := d0 rfl
      exact gstep_plain rfl rfl rfl (ph_val (val_lss f21 rfl))
    · intro l R3q hle ha hd
      obtain ⟨d0, _⟩ := hd
      have f22 : l 22 = (.bool (decide (m.inputs < 1))) := d0 rfl
      exact gstep_plain rfl rfl rfl (ph_val (val_move f22))
    · intro l R4q hle ha hd
      obtain ⟨d0, _⟩ := hd
      have a1 : l 1 = v1 := ha 1 rfl
      exact gstep_guard (Gj := true) (Bj := decide (m.inputs < 1)) rfl rfl rfl (gtrue (d0 rfl)) rfl (fun hG hB => ph_fieldR fd27_1 pt_Mach1 a1 ((h2.mono le6).mono hle))
    · intro l R5q hle ha hd
      obtain ⟨d0, d1, _⟩ := hd
      have f24g : phG (true && ((decide (m.inputs < 1)) == false)) (phP (tInt .i64) m.outputs) (l 24) R5q := d0 rfl
      exact gstep_guard (Gj := true) (Bj := decide (m.inputs < 1)) rfl rfl rfl (gtrue (d1 rfl)) rfl (fun hG hB => ph_exact (ph_loadR ty3 rfl (f24g.1 (gandT rfl hB))) (fun _ _ h => vrep_int.1 h))
    · intro l R6q hle ha hd
      obtain ⟨d0, d1, _⟩ := hd
      have f25g : phG (true && ((decide (m.inputs < 1)) == false)) (phX (.int .i64 m.outputs)) (l 25) R6q := d0 rfl
      exact gstep_guard (Gj := true) (Bj := decide (m.inputs < 1)) rfl rfl rfl (gtrue (d1 rfl)) rfl (fun hG hB => ph_val (val_lss (show l 25 = (.int .i64 m.outputs) from f25g.1 (gandT rfl hB)) rfl))
    · intro l R7q hle ha hd
      obtain ⟨d0, d1, _⟩ := hd
      have f23 : l 23 = (.bool (decide (m.inputs < 1))) := d0 rfl
      have f26g : phG (true && ((decide (m.inputs < 1)) == false)) (phX (.bool (decide (m.outputs < 1)))) (l 26) R7q := d1 rfl
      exact gstep_plain rfl rfl rfl (ph_val (val_or f23 rfl (fun hb => (show l 26 = (.bool (decide (m.outputs < 1))) from f26g.1 (gandT rfl hb)))))
    · intro l R8q hle ha hd
      obtain ⟨d0, d1, _⟩ := hd
      have f27 : l 27 = (.bool ((decide (m.inputs < 1)) || (decide (m.outputs < 1)))) := d0 rfl
      exact gstep_plain rfl rfl rfl (ph_val (val_move f27))
    · intro l R9q hle ha hd
      obtain ⟨d0, _⟩ := hd
      have a1 : l 1 = v1 := ha 1 rfl
      exact gstep_guard (Gj := true) (Bj := (decide (m.inputs < 1)) || (decide (m.outputs < 1))) rfl rfl rfl (gtrue (d0 rfl)) rfl (fun hG hB => ph_fieldR fd27_2 pt_Mach2 a1 ((h2.mono le6).mono hle))
    · intro l R10q hle ha hd
      obtain ⟨d0, d1, _⟩ := hd
      have f29g : phG (true && (((decide (m.inputs < 1)) || (decide (m.outputs < 1))) == false)) (phP (tSl false (tSl false kEdge)) m.rows) (l 29) R10q := d0 rfl
      exact gstep_guard (Gj := true) (Bj := (decide (m.inputs < 1)) || (decide (m.outputs < 1))) rfl rfl rfl (gtrue (d1 rfl)) rfl (fun hG hB => ph_loadR ty25 rfl (f29g.1 (gandT rfl hB)))
    · intro l R11q hle ha hd
      obtain ⟨d0, d1, _⟩ := hd
      have f30g : phG (true && (((decide (m.inputs < 1)) || (decide (m.outputs < 1))) == false)) (phR (tSl false (tSl false kEdge)) m.rows) (l 30) R11q := d0 rfl
      exact gstep_guard (Gj := true) (Bj := (decide (m.inputs < 1)) || (decide (m.outputs < 1))) rfl rfl rfl (gtrue (d1 rfl)) rfl (fun hG hB => ph_val (val_lenR rfl Try.underlying25 rfl (sl_s (f30g.1 (gandT rfl hB)))))
    · intro l R12q hle ha hd
      obtain ⟨d0, d1, _⟩ := hd
      have f31g : phG (true && (((decide (m.inputs < 1)) || (decide (m.outputs < 1))) == false)) (phX (.int .i64 (↑m.rows.length : Int))) (l 31) R12q := d0 rfl
      exact gstep_guard (Gj := true) (Bj := (decide (m.inputs < 1)) || (decide (m.outputs < 1))) rfl rfl rfl (gtrue (d1 rfl)) rfl (fun hG hB => ph_val (val_eql (show l 31 = (.int .i64 (↑m.rows.length : Int)) from f31g.1 (gandT rfl hB)) rfl))
    · intro l R13q hle ha hd
      obtain ⟨d0, d1, _⟩ := hd
      have f28 : l 28 = (.bool ((decide (m.inputs < 1)) || (decide (m.outputs < 1)))) := d0 rfl
      have f32g : phG (true && (((decide (m.inputs < 1)) || (decide (m.outputs < 1))) == false)) (phX (.bool (decide ((↑m.rows.length : Int) = 0)))) (l 32) R13q := d1 rfl
      exact gstep_plain rfl rfl rfl (ph_val (val_or f28 rfl (fun hb => (show l 32 = (.bool (decide ((↑m.rows.length : Int) = 0))) from f32g.1 (gandT rfl hb)))))
    intro v38 h39
    intro v40 h41
    intro v42 h43
    intro v44 h45
    intro v46 h47
    intro v48 h49
    intro v50 h51
    intro v52 h53
    intro v54 h55
    intro v56 h57
    intro v58 h59
    intro v60 h61
    intro v62 h63
    intro v64 h65
    obtain rfl := Eq.symm h41
    obtain rfl := Eq.symm h43
    obtain rfl := Eq.symm h45
    obtain rfl := Eq.symm h53
    obtain rfl := Eq.symm h55
    obtain rfl := Eq.symm h65
    refine wo_nil ?_
    refine wg_cond rfl (fun e66 => ?_) (fun e66 => ?_)
    · replace hd0 := sel_t e66 hd0; clear e66
      refine wg_seq ?_
      refine wg_region ?_
      refine wo_v rfl (val_assign (v := (.int .i64 1)) rfl) ?_
      refine wo_nil ?_
      refine wg_ret ?_
      obtain rfl := Option.some.inj hd0
      refine body_end (D := []) (J := []) (rs := [.tmp 2]) (vs := [(.int .i64 1)]) ((le4.trans le6).trans le37) rfl rfl ⟨rfl, trivial⟩ ?_
      exact ⟨rfl, rfl⟩
    · replace hd0 := sel_f e66 hd0; clear e66
      refine wg_skip ?_
      replace hd0 := bd_some hd0; obtain ⟨q68, hd1, hd0⟩ := hd0
      refine wg_meet (γ := Unit) true [3, 34, 35, 36, 37, 38, 41, 42, 43, 44, 45, 46, 47, 48, 49, 2, 4, 50, 51, 52, 53, 56, 57, 58, 59, 60, 61, 62, 63, 5, 64, 65, 66, 67, 68, 69, 70, 71, 72, 73, 74, 75, 76, 77, 78, 79, 80, 81, 82, 83, 84, 85, 86, 87, 88, 89, 90, 91, 92, 93, 94, 54, 55, 39, 40] (fun g => []) (fun g => [] ++ A) (fun g R => q68 = Ex.go g ∧ True) ?_ ?_
      ·
        refine wg_seq ?_
        refine wg_region ?_
        refine wo_v rfl (val_assign (v := (.int .i64 0)) rfl) ?_
        refine wo_nil ?_
        refine wg_block ?_
        refine wg_loopS (γ := Nat × Int) true [34, 35, 36, 37, 38, 41, 42, 43, 44, 45, 46, 47, 48, 49, 2, 4, 50, 51, 52, 53, 56, 57, 58, 59, 60, 61, 62, 63, 5, 64, 65, 66, 67, 68, 69, 70, 71, 72, 73, 74, 75, 76, 77, 78, 79, 80, 81, 82, 83, 84, 85, 86, 87, 88, 89, 90, 91, 92, 93, 94, 54, 55, 39, 40, 3] (fun g => [(3, (.int .i64 g.2))]) (fun g => [] ++ A) (fun g R => gauntletref04_Check_L1 N m g.1 g.2 = some q68 ∧ True) (fun g => g.1) (N, 0) ⟨rfl, trivial⟩ ⟨[], List.Perm.refl _⟩ ⟨hd1, trivial⟩ (fun _ => rfl) ?_
        clear hd1
        rintro ⟨F71, x72⟩ j214 D215 R73 hD216 le74 ⟨hd1, _⟩
        obtain rfl := hD216 rfl
        rcases F71 with _ | F71
        · exact none_elim hd1
        replace hd1 : gauntletref04_Check_L1 N m (F71 + 1) x72 = some q68 := hd1; rw [gauntletref04_Check_L1] at hd1
        refine wg_seq ?_
        refine wg_seq ?_
        refine wg_region ?_
        refine wo_v rfl (val_move (v := (.int .i64 x72)) rfl) ?_
        refine wo_fieldR rfl fd27_2 pt_Mach2 rfl (h2.mono ((le6.trans le37).trans le74)) fun v75 h76 => ?_
        refine wo_loadR rfl ty25 rfl h76 fun v77 h78 => ?_
        refine wo_v rfl (val_lenR rfl Try.underlying25 rfl (sl_s h78)) ?_
        refine wo_v rfl (val_lss rfl rfl) ?_
        refine wo_nil ?_
        refine wg_cond rfl (fun e79 => ?_) (fun e79 => ?_)
        · replace hd1 := sel_t e79 hd1; clear e79
          refine wg_skip ?_
          replace hd1 := bd_some hd1; obtain ⟨q81, hd2, hd1⟩ := hd1
          refine wg_meet (γ := Unit) true [41, 42, 43, 44, 45, 46, 47, 48, 49, 2, 4, 50, 51, 52, 53, 56, 57, 58, 59, 60, 61, 62, 63, 5, 64, 65, 66, 67, 68, 69, 70, 71, 72, 73, 74, 75, 76, 77, 78, 79, 80, 81, 82, 83, 84, 85, 86, 87, 88, 89, 90, 91, 92, 93, 94, 54, 55] (fun g => []) (fun g => [] ++ A) (fun g R => q81 = Ex.go g ∧ True) ?_ ?_
          ·
            refine wg_block ?_
            refine wg_seq ?_
            refine wg_seq ?_
            have g84 := (gd_some hd2).1; replace hd2 := (gd_some hd2).2
            refine wg_drawn 9 [] [phP (tSl false (tSl false kEdge)) m.rows, phR (tSl false (tSl false kEdge)) m.rows, phX (.int .i64 x72), phP (tSl false kEdge) (ix m.rows x72), phR (tSl false kEdge) (ix m.rows x72), phX (.int .i64 (↑(ix m.rows x72).length : Int)), phP (tInt .i64) m.inputs, phX (.int .i64 m.inputs), phX (.bool (decide ((↑(ix m.rows x72).length : Int) ≠ m.inputs)))] mixed (by kernel_rfl) (monoOk_of ⟨mono_p, mono_r, mono_x, mono_p, mono_r, mono_x, mono_p, mono_x, mono_x, trivial⟩) ⟨?_, ?_, ?_, ?_, ?_, ?_, ?_, ?_, ?_, trivial⟩ fun R85 le86 => ?_
            · intro l R0q hle ha hd
              have a1 : l 1 = v1 := ha 1 rfl
              exact gstep_plain rfl rfl rfl (ph_fieldR fd27_2 pt_Mach2 a1 ((h2.mono ((le6.trans le37).trans le74)).mono hle))
            · intro l R1q hle ha hd
              obtain ⟨d0, _⟩ := hd
              have f41 : phP (tSl false (tSl false kEdge)) m.rows (l 41) R1q := d0 rfl
              exact gstep_plain rfl rfl rfl (ph_loadR ty25 rfl f41)
            · intro l R2q hle ha hd
              have a3 : l 3 = (.int .i64 x72) := ha 3 rfl
              exact gstep_plain rfl rfl rfl (ph_val (val_move a3))
            · intro l R3q hle ha hd
              obtain ⟨d0, d1, _⟩ := hd
              have f42 : phR (tSl false (tSl false kEdge)) m.rows (l 42) R3q := d0 rfl
              have f43 : l 43 = (.int .i64 x72) := d1 rfl
              exact gstep_plain rfl rfl rfl (ph_indexR (i := x72.toNat) sl25 rfl (sl_s f42) (idx_nonneg f43 g84.1) (okI_lt g84))
            · intro l R4q hle ha hd
              obtain ⟨d0, _⟩ := hd
              have f44 : phP (tSl false kEdge) (ix m.rows x72) (l 44) R4q := d0 rfl
              exact gstep_plain rfl rfl rfl (ph_loadR ty41 rfl f44)
            · intro l R5q hle ha hd
              obtain ⟨d0, _⟩ := hd
              have f45 : phR (tSl false kEdge) (ix m.rows x72) (l 45) R5q := d0 rfl
              exact gstep_plain rfl rfl rfl (ph_val (val_lenR rfl Try.underlying41 rfl (sl_s f45)))
            · intro l R6q hle ha hd
              have a1 : l 1 = v1 := ha 1 rfl
              exact gstep_plain rfl rfl rfl (ph_fieldR fd27_0 pt_Mach0 a1 ((h2.mono ((le6.trans le37).trans le74)).mono hle))
            · intro l R7q hle ha hd
              obtain ⟨d0, _⟩ := hd
              have f47 : phP (tInt .i64) m.inputs (l 47) R7q := d0 rfl
              exact gstep_plain rfl rfl rfl (ph_exact (ph_loadR ty3 rfl f47) (fun _ _ h => vrep_int.1 h))
            · intro l R8q hle ha hd
              obtain ⟨d0, d1, _⟩ := hd
              have f46 : l 46 = (.int .i64 (↑(ix m.rows x72).length : Int)) := d0 rfl
              have f48 : l 48 = (.int .i64 m.inputs) := d1 rfl
              exact gstep_plain rfl rfl rfl (ph_val (val_neq f46 f48))
            intro v87 h88
            intro v89 h90
            intro v91 h92
            intro v93 h94
            intro v95 h96
            intro v97 h98
            intro v99 h100
            intro v101 h102
            intro v103 h104
            obtain rfl := Eq.symm h92
            obtain rfl := Eq.symm h98
            obtain rfl := Eq.symm h102
            obtain rfl := Eq.symm h104
            refine wo_nil ?_
            refine wg_cond rfl (fun e105 => ?_) (fun e105 => ?_)
            · replace hd2 := sel_t e105 hd2; clear e105
              refine wg_seq ?_
              refine wg_region ?_
              refine wo_v rfl (val_assign (v := (.int .i64 1)) rfl) ?_
              refine wo_nil ?_
              refine wg_ret ?_
              replace hd1 := on_rt hd2 hd1
              replace hd0 := on_rt hd1 hd0
              obtain rfl := Option.some.inj hd0
              refine body_end (D := []) (J := []) (rs := [.tmp 2]) (vs := [(.int .i64 1)]) ((((le4.trans le6).trans le37).trans le74).trans le86) rfl rfl ⟨rfl, trivial⟩ ?_
              exact ⟨rfl, rfl⟩
            · replace hd2 := sel_f e105 hd2; clear e105
              refine wg_skip ?_
              refine wg_seq ?_
              refine wg_region ?_
              refine wo_v rfl (val_assign (v := (.int .i64 0)) rfl) ?_
              refine wo_nil ?_
              refine wg_block ?_
              refine wg_loopS (γ := Nat × Int) true [50, 51, 52, 53, 56, 57, 58, 59, 60, 61, 62, 63, 5, 64, 65, 66, 67, 68, 69, 70, 71, 72, 73, 74, 75, 76, 77, 78, 79, 80, 81, 82, 83, 84, 85, 86, 87, 88, 89, 90, 91, 92, 93, 94, 2, 54, 55, 4] (fun g => [(4, (.int .i64 g.2))]) (fun g => [] ++ A) (fun g R => gauntletref04_Check_L2 N m x72 g.1 g.2 = some q81 ∧ True) (fun g => g.1) (N, 0) ⟨rfl, trivial⟩ ⟨[], List.Perm.refl _⟩ ⟨hd2, trivial⟩ (fun _ => rfl) ?_
              clear hd2
              rintro ⟨F106, x107⟩ j207 D208 R108 hD209 le109 ⟨hd2, _⟩
              obtain rfl := hD209 rfl
              rcases F106 with _ | F106
              · exact none_elim hd2
              replace hd2 : gauntletref04_Check_L2 N m x72 (F106 + 1) x107 = some q81 := hd2; rw [gauntletref04_Check_L2] at hd2
              refine wg_seq ?_
              refine wg_seq ?_
              refine wg_region ?_
              refine wo_v rfl (val_move (v := (.int .i64 x107)) rfl) ?_
              refine wo_fieldR rfl fd27_0 pt_Mach0 rfl (h2.mono ((((le6.trans le37).trans le74).trans le86).trans le109)) fun v110 h111 => ?_
              refine wo_loadR rfl ty3 rfl h111 fun v112 h113 => ?_
              obtain rfl := vrep_int.1 h113
              refine wo_v rfl (val_lss rfl rfl) ?_
              refine wo_nil ?_
              refine wg_cond rfl (fun e114 => ?_) (fun e114 => ?_)
              · replace hd2 := sel_t e114 hd2; clear e114
                refine wg_skip ?_
                replace hd2 := bd_some hd2; obtain ⟨q116, hd3, hd2⟩ := hd2
                refine wg_meet (γ := Unit) true [56, 57, 58, 59, 60, 61, 62, 63, 5, 64, 65, 66, 67, 68, 69, 70, 71, 72, 73, 74, 75, 76, 77, 78, 79, 80, 81, 82, 83, 84, 85, 86, 87, 88, 89, 90, 91, 92, 93, 94, 2] (fun g => []) (fun g => [] ++ A) (fun g R => q116 = Ex.go g ∧ True) ?_ ?_
                ·
                  refine wg_block ?_
                  refine wg_seq ?_
                  refine wg_region ?_
                  refine wo_fieldR rfl fd27_2 pt_Mach2 rfl (h2.mono ((((le6.trans le37).trans le74).trans le86).trans le109)) fun v119 h120 => ?_
                  refine wo_loadR rfl ty25 rfl h120 fun v121 h122 => ?_
                  refine wo_v rfl (val_move (v := (.int .i64 x72)) rfl) ?_
                  have g123 := (gd_some hd3).1; replace hd3 := (gd_some hd3).2
                  refine wo_indexR (i := x72.toNat) rfl sl25 rfl (sl_s h122) (idx_nonneg rfl g123.1) (okI_lt g123) fun v124 h125 => ?_
                  refine wo_loadR rfl ty41 rfl h125 fun v126 h127 => ?_
                  refine wo_v rfl (val_move (v := (.int .i64 x107)) rfl) ?_
                  have g128 := (gd_some hd3).1; replace hd3 := (gd_some hd3).2
                  refine wo_indexR (i := x107.toNat) rfl sl41 rfl (sl_s h127) (idx_nonneg rfl g128.1) (okI_lt g128) fun v129 h130 => ?_
                  refine wo_loadR rfl ty40 rfl h130 fun v131 h132 => ?_
                  obtain rfl := vrep_Edge.1 h132
                  refine wo_alloc rfl za40 fun b133 => ?_
                  refine wo_store (i := 0) (vs := [(.int .i64 ((ix (ix m.rows x72) x107).to)), (.int .i64 ((ix (ix m.rows x72) x107).out))]) sz40 rfl rfl rfl rfl rfl rfl (one_cons rfl (one_cons rfl one_nil)) ?_
                  refine wo_nil ?_
                  refine wg_seq ?_
                  refine wg_seq ?_
                  refine wg_guarded 8 [] [phX (.pointer (some ⟨b133, 0, none⟩)), phX (.int .i64 ((ix (ix m.rows x72) x107).to)), phX (.bool (decide (((ix (ix m.rows x72) x107).to) = (-1)))), phX (.bool (decide (((ix (ix m.rows x72) x107).to) = (-1)))), phG (true && ((decide (((ix (ix m.rows x72) x107).to) = (-1))) == true)) (phX (.pointer (some ⟨b133, 1, none⟩))), phG (true && ((decide (((ix (ix m.rows x72) x107).to) = (-1))) == true)) (phX (.int .i64 ((ix (ix m.rows x72) x107).out))), phG (true && ((decide (((ix (ix m.rows x72) x107).to) = (-1))) == true)) (phX (.bool (decide (((ix (ix m.rows x72) x107).out) = (-1))))), phX (.bool ((decide (((ix (ix m.rows x72) x107).to) = (-1))) && (decide (((ix (ix m.rows x72) x107).out) = (-1)))))] (by kernel_rfl) (by kernel_rfl) (monoOk_of ⟨mono_x, mono_x, mono_x, mono_x, (mono_g mono_x), (mono_g mono_x), (mono_g mono_x), mono_x, trivial⟩) ⟨?_, ?_, ?_, ?_, ?_, ?_, ?_, ?_, trivial⟩ fun R135 le136 => ?_
                  · intro l R0q hle ha hd
                    have a5 : l 5 = (.pointer (some ⟨b133, 0, none⟩)) := ha 5 rfl
                    exact gstep_plain rfl rfl rfl (ph_val (val_fieldB fd40_0 a5))
                  · intro l R1q hle ha hd
                    obtain ⟨d0, _⟩ := hd
                    have f64 : l 64 = (.pointer (some ⟨b133, 0, none⟩)) := d0 rfl
                    exact gstep_plain rfl rfl rfl (ph_val (val_loadB (i := 0) ag3 f64 rfl rfl))
                  · intro l R2q hle ha hd
                    obtain ⟨d0, _⟩ := hd
                    have f65 : l 65 = (.int .i64 ((ix (ix m.rows x72) x107).to)) := d0 rfl
                    exact gstep_plain rfl rfl rfl (ph_val (val_eql f65 rfl))
                  · intro l R3q hle ha hd
                    obtain ⟨d0, _⟩ := hd
                    have f66 : l 66 = (.bool (decide (((ix (ix m.rows x72) x107).to) = (-1)))) := d0 rfl
                    exact gstep_plain rfl rfl rfl (ph_val (val_move f66))
                  · intro l R4q hle ha hd
                    obtain ⟨d0, _⟩ := hd
                    have a5 : l 5 = (.pointer (some ⟨b133, 0, none⟩)) := ha 5 rfl
                    exact gstep_guard (Gj := true) (Bj := decide (((ix (ix m.rows x72) x107).to) = (-1))) rfl rfl rfl (gtrue (d0 rfl)) rfl (fun hG hB => ph_val (val_fieldB fd40_1 a5))
                  · intro l R5q hle ha hd
                    obtain ⟨d0, d1, _⟩ := hd
                    have f68g : phG (true && ((decide (((ix (ix m.rows x72) x107).to) = (-1))) == true)) (phX (.pointer (some ⟨b133, 1, none⟩))) (l 68) R5q := d0 rfl
                    exact gstep_guard (Gj := true) (Bj := decide (((ix (ix m.rows x72) x107).to) = (-1))) rfl rfl rfl (gtrue (d1 rfl)) rfl (fun hG hB => ph_val (val_loadB (i := 0) ag3 (show l 68 = (.pointer (some ⟨b133, 1, none⟩)) from f68g.1 (gandT rfl hB)) rfl rfl))
                  · intro l R6q hle ha hd
                    obtain ⟨d0, d1, _⟩ := hd
                    have f69g : phG (true && ((decide (((ix (ix m.rows x72) x107).to) = (-1))) == true)) (phX (.int .i64 ((ix (ix m.rows x72) x107).out))) (l 69) R6q := d0 rfl
                    exact gstep_guard (Gj := true) (Bj := decide (((ix (ix m.rows x72) x107).to) = (-1))) rfl rfl rfl (gtrue (d1 rfl)) rfl (fun hG hB => ph_val (val_eql (show l 69 = (.int .i64 ((ix (ix m.rows x72) x107).out)) from f69g.1 (gandT rfl hB)) rfl))
                  · intro l R7q hle ha hd
                    obtain ⟨d0, d1, _⟩ := hd
                    have f67 : l 67 = (.bool (decide (((ix (ix m.rows x72) x107).to) = (-1)))) := d0 rfl
                    have f70g : phG (true && ((decide (((ix (ix m.rows x72) x107).to) = (-1))) == true)) (phX (.bool (decide (((ix (ix m.rows x72) x107).out) = (-1))))) (l 70) R7q := d1 rfl
                    exact gstep_plain rfl rfl rfl (ph_val (val_and f67 (fun hb => (show l 70 = (.bool (decide (((ix (ix m.rows x72) x107).out) = (-1)))) from f70g.1 (gandT rfl hb))) rfl))
                  intro v137 h138
                  intro v139 h140
                  intro v141 h142
                  intro v143 h144
                  intro v145 h146
                  intro v147 h148
                  intro v149 h150
                  intro v151 h152
                  obtain rfl := Eq.symm h138
                  obtain rfl := Eq.symm h140
                  obtain rfl := Eq.symm h142
                  obtain rfl := Eq.symm h144
                  obtain rfl := Eq.symm h152
                  refine wo_nil ?_
                  refine wg_cond rfl (fun e153 => ?_) (fun e153 => ?_)
                  · replace hd3 := sel_t e153 hd3; clear e153
                    refine wg_exit ?_
                    exact ⟨(fun _ => rfl), le136, (by repeat (first | exact off_self | refine off_upd rfl ?_ | refine off_setl rfl ?_ | refine off_mask_sub rfl ?_)), (), trivial, ⟨[box b133 [(.int .i64 ((ix (ix m.rows x72) x107).to)), (.int .i64 ((ix (ix m.rows x72) x107).out))] 40], (List.Perm.refl _)⟩, (Option.some.inj hd3).symm, trivial⟩
                  · replace hd3 := sel_f e153 hd3; clear e153
                    refine wg_skip ?_
                    refine wg_seq ?_
                    refine wg_guarded 23 [] [phX (.pointer (some ⟨b133, 0, none⟩)), phX (.int .i64 ((ix (ix m.rows x72) x107).to)), phX (.bool (decide (((ix (ix m.rows x72) x107).to) < 0))), phX (.bool (decide (((ix (ix m.rows x72) x107).to) < 0))), phG (true && ((decide (((ix (ix m.rows x72) x107).to) < 0)) == false)) (phX (.pointer (some ⟨b133, 0, none⟩))), phG (true && ((decide (((ix (ix m.rows x72) x107).to) < 0)) == false)) (phX (.int .i64 ((ix (ix m.rows x72) x107).to))), phG (true && ((decide (((ix (ix m.rows x72) x107).to) < 0)) == false)) (phP (tSl false (tSl false kEdge)) m.rows), phG (true && ((decide (((ix (ix m.rows x72) x107).to) < 0)) == false)) (phR (tSl false (tSl false kEdge)) m.rows), phG (true && ((decide (((ix (ix m.rows x72) x107).to) < 0)) == false)) (phX (.int .i64 (↑m.rows.length : Int))), phG (true && ((decide (((ix (ix m.rows x72) x107).to) < 0)) == false)) (phX (.bool (decide ((↑m.rows.length : Int) ≤ ((ix (ix m.rows x72) x107).to))))), phX (.bool ((decide (((ix (ix m.rows x72) x107).to) < 0)) || (decide ((↑m.rows.length : Int) ≤ ((ix (ix m.rows x72) x107).to))))), phX (.bool ((decide (((ix (ix m.rows x72) x107).to) < 0)) || (decide ((↑m.rows.length : Int) ≤ ((ix (ix m.rows x72) x107).to))))), phG (true && (((decide (((ix (ix m.rows x72) x107).to) < 0)) || (decide ((↑m.rows.length : Int) ≤ ((ix (ix m.rows x72) x107).to)))) == false)) (phX (.pointer (some ⟨b133, 1, none⟩))), phG (true && (((decide (((ix (ix m.rows x72) x107).to) < 0)) || (decide ((↑m.rows.length : Int) ≤ ((ix (ix m.rows x72) x107).to)))) == false)) (phX (.int .i64 ((ix (ix m.rows x72) x107).out))), phG (true && (((decide (((ix (ix m.rows x72) x107).to) < 0)) || (decide ((↑m.rows.length : Int) ≤ ((ix (ix m.rows x72) x107).to)))) == false)) (phX (.bool (decide (((ix (ix m.rows x72) x107).out) < 0)))), phX (.bool (((decide (((ix (ix m.rows x72) x107).to) < 0)) || (decide ((↑m.rows.length : Int) ≤ ((ix (ix m.rows x72) x107).to)))) || (decide (((ix (ix m.rows x72) x107).out) < 0)))), phX (.bool (((decide (((ix (ix m.rows x72) x107).to) < 0)) || (decide ((↑m.rows.length : Int) ≤ ((ix (ix m.rows x72) x107).to)))) || (decide (((ix (ix m.rows x72) x107).out) < 0)))), phG (true && ((((decide (((ix (ix m.rows x72) x107).to) < 0)) || (decide ((↑m.rows.length : Int) ≤ ((ix (ix m.rows x72) x107).to)))) || (decide (((ix (ix m.rows x72) x107).out) < 0))) == false)) (phX (.pointer (some ⟨b133, 1, none⟩))), phG (true && ((((decide (((ix (ix m.rows x72) x107).to) < 0)) || (decide ((↑m.rows.length : Int) ≤ ((ix (ix m.rows x72) x107).to)))) || (decide (((ix (ix m.rows x72) x107).out) < 0))) == false)) (phX (.int .i64 ((ix (ix m.rows x72) x107).out))), phG (true && ((((decide (((ix (ix m.rows x72) x107).to) < 0)) || (decide ((↑m.rows.length : Int) ≤ ((ix (ix m.rows x72) x107).to)))) || (decide (((ix (ix m.rows x72) x107).out) < 0))) == false)) (phP (tInt .i64) m.outputs), phG (true && ((((decide (((ix (ix m.rows x72) x107).to) < 0)) || (decide ((↑m.rows.length : Int) ≤ ((ix (ix m.rows x72) x107).to)))) || (decide (((ix (ix m.rows x72) x107).out) < 0))) == false)) (phX (.int .i64 m.outputs)), phG (true && ((((decide (((ix (ix m.rows x72) x107).to) < 0)) || (decide ((↑m.rows.length : Int) ≤ ((ix (ix m.rows x72) x107).to)))) || (decide (((ix (ix m.rows x72) x107).out) < 0))) == false)) (phX (.bool (decide (m.outputs ≤ ((ix (ix m.rows x72) x107).out))))), phX (.bool ((((decide (((ix (ix m.rows x72) x107).to) < 0)) || (decide ((↑m.rows.length : Int) ≤ ((ix (ix m.rows x72) x107).to)))) || (decide (((ix (ix m.rows x72) x107).out) < 0))) || (decide (m.outputs ≤ ((ix (ix m.rows x72) x107).out)))))] (by kernel_rfl) (by kernel_rfl) (monoOk_of ⟨mono_x, mono_x, mono_x, mono_x, (mono_g mono_x), (mono_g mono_x), (mono_g mono_p), (mono_g mono_r), (mono_g mono_x), (mono_g mono_x), mono_x, mono_x, (mono_g mono_x), (mono_g mono_x), (mono_g mono_x), mono_x, mono_x, (mono_g mono_x), (mono_g mono_x), (mono_g mono_p), (mono_g mono_x), (mono_g mono_x), mono_x, trivial⟩) ⟨?_, ?_, ?_, ?_, ?_, ?_, ?_, ?_, ?_, ?_, ?_, ?_, ?_, ?_, ?_, ?_, ?_, ?_, ?_, ?_, ?_, ?_, ?_, trivial⟩ fun R154 le155 => ?_
                    · intro l R0q hle ha hd
                      have a5 : l 5 = (.pointer (some ⟨b133, 0, none⟩)) := ha 5 rfl
                      exact gstep_plain rfl rfl rfl (ph_val (val_fieldB fd40_0 a5))
                    · intro l R1q hle ha hd
                      obtain ⟨d0, _⟩ := hd
                      have f72 : l 72 = (.pointer (some ⟨b133, 0, none⟩)) := d0 rfl
                      exact gstep_plain rfl rfl rfl (ph_val (val_loadB (i := 0) ag3 f72 rfl rfl))
                    · intro l R2q hle ha hd
                      obtain ⟨d0, _⟩ := hd
                      have f73 : l 73 = (.int .i64 ((ix (ix m.rows x72) x107).to)) := d0 rfl
                      exact gstep_plain rfl rfl rfl (ph_val (val_lss f73 rfl))
                    · intro l R3q hle ha hd
                      obtain ⟨d0, _⟩ := hd
                      have f74 : l 74 = (.bool (decide (((ix (ix m.rows x72) x107).to) < 0))) := d0 rfl
                      exact gstep_plain rfl rfl rfl (ph_val (val_move f74))
                    · intro l R4q hle ha hd
                      obtain ⟨d0, _⟩ := hd
                      have a5 : l 5 = (.pointer (some ⟨b133, 0, none⟩)) := ha 5 rfl
                      exact gstep_guard (Gj := true) (Bj := decide (((ix (ix m.rows x72) x107).to) < 0)) rfl rfl rfl (gtrue (d0 rfl)) rfl (fun hG hB => ph_val (val_fieldB fd40_0 a5))
                    · intro l R5q hle ha hd
                      obtain ⟨d0, d1, _⟩ := hd
                      have f76g : phG (true && ((decide (((ix (ix m.rows x72) x107).to) < 0)) == false)) (phX (.pointer (some ⟨b133, 0, none⟩))) (l 76) R5q := d0 rfl
                      exact gstep_guard (Gj := true) (Bj := decide (((ix (ix m.rows x72) x107).to) < 0)) rfl rfl rfl (gtrue (d1 rfl)) rfl (fun hG hB => ph_val (val_loadB (i := 0) ag3 (show l 76 = (.pointer (some ⟨b133, 0, none⟩)) from f76g.1 (gandT rfl hB)) rfl rfl))
                    · intro l R6q hle ha hd
                      obtain ⟨d0, _⟩ := hd
                      have a1 : l 1 = v1 := ha 1 rfl
                      exact gstep_guard (Gj := true) (Bj := decide (((ix (ix m.rows x72) x107).to) < 0)) rfl rfl rfl (gtrue (d0 rfl)) rfl (fun hG hB => ph_fieldR fd27_2 pt_Mach2 a1 ((h2.mono (((((le6.trans le37).trans le74).trans le86).trans le109).trans le136)).mono hle))
                    · intro l R7q hle ha hd
                      obtain ⟨d0, d1, _⟩ := hd
                      have f78g : phG (true && ((decide (((ix (ix m.rows x72) x107).to) < 0)) == false)) (phP (tSl false (tSl false kEdge)) m.rows) (l 78) R7q := d0 rfl
                      exact gstep_guard (Gj := true) (Bj := decide (((ix (ix m.rows x72) x107).to) < 0)) rfl rfl rfl (gtrue (d1 rfl)) rfl (fun hG hB => ph_loadR ty25 rfl (f78g.1 (gandT rfl hB)))
                    · intro l R8q hle ha hd
                      obtain ⟨d0, d1, _⟩ := hd
                      have f79g : phG (true && ((decide (((ix (ix m.rows x72) x107).to) < 0)) == false)) (phR (tSl false (tSl false kEdge)) m.rows) (l 79) R8q := d0 rfl
                      exact gstep_guard (Gj := true) (Bj := decide (((ix (ix m.rows x72) x107).to) < 0)) rfl rfl rfl (gtrue (d1 rfl)) rfl (fun hG hB => ph_val (val_lenR rfl Try.underlying25 rfl (sl_s (f79g.1 (gandT rfl hB)))))
                    · intro l R9q hle ha hd
                      obtain ⟨d0, d1, d2, _⟩ := hd
                      have f77g : phG (true && ((decide (((ix (ix m.rows x72) x107).to) < 0)) == false)) (phX (.int .i64 ((ix (ix m.rows x72) x107).to))) (l 77) R9q := d0 rfl
                      have f80g : phG (true && ((decide (((ix (ix m.rows x72) x107).to) < 0)) == false)) (phX (.int .i64 (↑m.rows.length : Int))) (l 80) R9q := d1 rfl
                      exact gstep_guard (Gj := true) (Bj := decide (((ix (ix m.rows x72) x107).to) < 0)) rfl rfl rfl (gtrue (d2 rfl)) rfl (fun hG hB => ph_val (val_geq (show l 77 = (.int .i64 ((ix (ix m.rows x72) x107).to)) from f77g.1 (gandT rfl hB)) (show l 80 = (.int .i64 (↑m.rows.length : Int)) from f80g.1 (gandT rfl hB))))
                    · intro l R10q hle ha hd
                      obtain ⟨d0, d1, _⟩ := hd
                      have f75 : l 75 = (.bool (decide (((ix (ix m.rows x72) x107).to) < 0))) := d0 rfl
                      have f81g : phG (true && ((decide (((ix (ix m.rows x72) x107).to) < 0)) == false)) (phX (.bool (decide ((↑m.rows.length : Int) ≤ ((ix (ix m.rows x72) x107).to))))) (l 81) R10q := d1 rfl
                      exact gstep_plain rfl rfl rfl (ph_val (val_or f75 rfl (fun hb => (show l 81 = (.bool (decide ((↑m.rows.length : Int) ≤ ((ix (ix m.rows x72) x107).to)))) from f81g.1 (gandT rfl hb)))))
                    · intro l R11q hle ha hd
                      obtain ⟨d0, d1, _⟩ := hd
                      have f82 : l 82 = (.bool ((decide (((ix (ix m.rows x72) x107).to) < 0)) || (decide ((↑m.rows.length : Int) ≤ ((ix (ix m.rows x72) x107).to))))) := d0 rfl
                      exact gstep_plain rfl rfl rfl (ph_val (val_move f82))
                    · intro l R12q hle ha hd
                      obtain ⟨d0, _⟩ := hd
                      have a5 : l 5 = (.pointer (some ⟨b133, 0, none⟩)) := ha 5 rfl
                      exact gstep_guard (Gj := true) (Bj := (decide (((ix (ix m.rows x72) x107).to) < 0)) || (decide ((↑m.rows.length : Int) ≤ ((ix (ix m.rows x72) x107).to)))) rfl rfl rfl (gtrue (d0 rfl)) rfl (fun hG hB => ph_val (val_fieldB fd40_1 a5))
                    · intro l R13q hle ha hd
                      obtain ⟨d0, d1, _⟩ := hd
                      have f84g : phG (true && (((decide (((ix (ix m.rows x72) x107).to) < 0)) || (decide ((↑m.rows.length : Int) ≤ ((ix (ix m.rows x72) x107).to)))) == false)) (phX (.pointer (some ⟨b133, 1, none⟩))) (l 84) R13q := d0 rfl
                      exact gstep_guard (Gj := true) (Bj := (decide (((ix (ix m.rows x72) x107).to) < 0)) || (decide ((↑m.rows.length : Int) ≤ ((ix (ix m.rows x72) x107).to)))) rfl rfl rfl (gtrue (d1 rfl)) rfl (fun hG hB => ph_val (val_loadB (i := 0) ag3 (show l 84 = (.pointer (some ⟨b133, 1, none⟩)) from f84g.1 (gandT rfl hB)) rfl rfl))
                    · intro l R14q hle ha hd
                      obtain ⟨d0, d1, _⟩ := hd
                      have f85g : phG (true && (((decide (((ix (ix m.rows x72) x107).to) < 0)) || (decide ((↑m.rows.length : Int) ≤ ((ix (ix m.rows x72) x107).to)))) == false)) (phX (.int .i64 ((ix (ix m.rows x72) x107).out))) (l 85) R14q := d0 rfl
                      exact gstep_guard (Gj := true) (Bj := (decide (((ix (ix m.rows x72) x107).to) < 0)) || (decide ((↑m.rows.length : Int) ≤ ((ix (ix m.rows x72) x107).to)))) rfl rfl rfl (gtrue (d1 rfl)) rfl (fun hG hB => ph_val (val_lss (show l 85 = (.int .i64 ((ix (ix m.rows x72) x107).out)) from f85g.1 (gandT rfl hB)) rfl))
                    · intro l R15q hle ha hd
                      obtain ⟨d0, d1, _⟩ := hd
                      have f83 : l 83 = (.bool ((decide (((ix (ix m.rows x72) x107).to) < 0)) || (decide ((↑m.rows.length : Int) ≤ ((ix (ix m.rows x72) x107).to))))) := d0 rfl
                      have f86g : phG (true && (((decide (((ix (ix m.rows x72) x107).to) < 0)) || (decide ((↑m.rows.length : Int) ≤ ((ix (ix m.rows x72) x107).to)))) == false)) (phX (.bool (decide (((ix (ix m.rows x72) x107).out) < 0)))) (l 86) R15q := d1 rfl
                      exact gstep_plain rfl rfl rfl (ph_val (val_or f83 rfl (fun hb => (show l 86 = (.bool (decide (((ix (ix m.rows x72) x107).out) < 0))) from f86g.1 (gandT rfl hb)))))
                    · intro l R16q hle ha hd
                      obtain ⟨d0, d1, _⟩ := hd
                      have f87 : l 87 = (.bool (((decide (((ix (ix m.rows x72) x107).to) < 0)) || (decide ((↑m.rows.length : Int) ≤ ((ix (ix m.rows x72) x107).to)))) || (decide (((ix (ix m.rows x72) x107).out) < 0)))) := d0 rfl
                      exact gstep_plain rfl rfl rfl (ph_val (val_move f87))
                    · intro l R17q hle ha hd
                      obtain ⟨d0, _⟩ := hd
                      have a5 : l 5 = (.pointer (some ⟨b133, 0, none⟩)) := ha 5 rfl
                      exact gstep_guard (Gj := true) (Bj := ((decide (((ix (ix m.rows x72) x107).to) < 0)) || (decide ((↑m.rows.length : Int) ≤ ((ix (ix m.rows x72) x107).to)))) || (decide (((ix (ix m.rows x72) x107).out) < 0))) rfl rfl rfl (gtrue (d0 rfl)) rfl (fun hG hB => ph_val (val_fieldB fd40_1 a5))
                    · intro l R18q hle ha hd
                      obtain ⟨d0, d1, _⟩ := hd
                      have f89g : phG (true && ((((decide (((ix (ix m.rows x72) x107).to) < 0)) || (decide ((↑m.rows.length : Int) ≤ ((ix (ix m.rows x72) x107).to)))) || (decide (((ix (ix m.rows x72) x107).out) < 0))) == false)) (phX (.pointer (some ⟨b133, 1, none⟩))) (l 89) R18q := d0 rfl
                      exact gstep_guard (Gj := true) (Bj := ((decide (((ix (ix m.rows x72) x107).to) < 0)) || (decide ((↑m.rows.length : Int) ≤ ((ix (ix m.rows x72) x107).to)))) || (decide (((ix (ix m.rows x72) x107).out) < 0))) rfl rfl rfl (gtrue (d1 rfl)) rfl (fun hG hB => ph_val (val_loadB (i := 0) ag3 (show l 89 = (.pointer (some ⟨b133, 1, none⟩)) from f89g.1 (gandT rfl hB)) rfl rfl))
                    · intro l R19q hle ha hd
                      obtain ⟨d0, _⟩ := hd
                      have a1 : l 1 = v1 := ha 1 rfl
                      exact gstep_guard (Gj := true) (Bj := ((decide (((ix (ix m.rows x72) x107).to) < 0)) || (decide ((↑m.rows.length : Int) ≤ ((ix (ix m.rows x72) x107).to)))) || (decide (((ix (ix m.rows x72) x107).out) < 0))) rfl rfl rfl (gtrue (d0 rfl)) rfl (fun hG hB => ph_fieldR fd27_1 pt_Mach1 a1 ((h2.mono (((((le6.trans le37).trans le74).trans le86).trans le109).trans le136)).mono hle))
                    · intro l R20q hle ha hd
                      obtain ⟨d0, d1, _⟩ := hd
                      have f91g : phG (true && ((((decide (((ix (ix m.rows x72) x107).to) < 0)) || (decide ((↑m.rows.length : Int) ≤ ((ix (ix m.rows x72) x107).to)))) || (decide (((ix (ix m.rows x72) x107).out) < 0))) == false)) (phP (tInt .i64) m.outputs) (l 91) R20q := d0 rfl
                      exact gstep_guard (Gj := true) (Bj := ((decide (((ix (ix m.rows x72) x107).to) < 0)) || (decide ((↑m.rows.length : Int) ≤ ((ix (ix m.rows x72) x107).to)))) || (decide (((ix (ix m.rows x72) x107).out) < 0))) rfl rfl rfl (gtrue (d1 rfl)) rfl (fun hG hB => ph_exact (ph_loadR ty3 rfl (f91g.1 (gandT rfl hB))) (fun _ _ h => vrep_int.1 h))
                    · intro l R21q hle ha hd
                      obtain ⟨d0, d1, d2, _⟩ := hd
                      have f90g : phG (true && ((((decide (((ix (ix m.rows x72) x107).to) < 0)) || (decide ((↑m.rows.length : Int) ≤ ((ix (ix m.rows x72) x107).to)))) || (decide (((ix (ix m.rows x72) x107).out) < 0))) == false)) (phX (.int .i64 ((ix (ix m.rows x72) x107).out))) (l 90) R21q := d0 rfl
                      have f92g : phG (true && ((((decide (((ix (ix m.rows x72) x107).to) < 0)) || (decide ((↑m.rows.length : Int) ≤ ((ix (ix m.rows x72) x107).to)))) || (decide (((ix (ix m.rows x72) x107).out) < 0))) == false)) (phX (.int .i64 m.outputs)) (l 92) R21q := d1 rfl
                      exact gstep_guard (Gj := true) (Bj := ((decide (((ix (ix m.rows x72) x107).to) < 0)) || (decide ((↑m.rows.length : Int) ≤ ((ix (ix m.rows x72) x107).to)))) || (decide (((ix (ix m.rows x72) x107).out) < 0))) rfl rfl rfl (gtrue (d2 rfl)) rfl (fun hG hB => ph_val (val_geq (show l 90 = (.int .i64 ((ix (ix m.rows x72) x107).out)) from f90g.1 (gandT rfl hB)) (show l 92 = (.int .i64 m.outputs) from f92g.1 (gandT rfl hB))))
                    · intro l R22q hle ha hd
                      obtain ⟨d0, d1, _⟩ := hd
                      have f88 : l 88 = (.bool (((decide (((ix (ix m.rows x72) x107).to) < 0)) || (decide ((↑m.rows.length : Int) ≤ ((ix (ix m.rows x72) x107).to)))) || (decide (((ix (ix m.rows x72) x107).out) < 0)))) := d0 rfl
                      have f93g : phG (true && ((((decide (((ix (ix m.rows x72) x107).to) < 0)) || (decide ((↑m.rows.length : Int) ≤ ((ix (ix m.rows x72) x107).to)))) || (decide (((ix (ix m.rows x72) x107).out) < 0))) == false)) (phX (.bool (decide (m.outputs ≤ ((ix (ix m.rows x72) x107).out))))) (l 93) R22q := d1 rfl
                      exact gstep_plain rfl rfl rfl (ph_val (val_or f88 rfl (fun hb => (show l 93 = (.bool (decide (m.outputs ≤ ((ix (ix m.rows x72) x107).out)))) from f93g.1 (gandT rfl hb)))))
                    intro v156 h157
                    intro v158 h159
                    intro v160 h161
                    intro v162 h163
                    intro v164 h165
                    intro v166 h167
                    intro v168 h169
                    intro v170 h171
                    intro v172 h173
                    intro v174 h175
                    intro v176 h177
                    intro v178 h179
                    intro v180 h181
                    intro v182 h183
                    intro v184 h185
                    intro v186 h187
                    intro v188 h189
                    intro v190 h191
                    intro v192 h193
                    intro v194 h195
                    intro v196 h197
                    intro v198 h199
                    intro v200 h201
                    obtain rfl := Eq.symm h157
                    obtain rfl := Eq.symm h159
                    obtain rfl := Eq.symm h161
                    obtain rfl := Eq.symm h163
                    obtain rfl := Eq.symm h177
                    obtain rfl := Eq.symm h179
                    obtain rfl := Eq.symm h187
                    obtain rfl := Eq.symm h189
                    obtain rfl := Eq.symm h201
                    refine wo_nil ?_
                    refine wg_cond rfl (fun e202 => ?_) (fun e202 => ?_)
                    · replace hd3 := sel_t e202 hd3; clear e202
                      refine wg_seq ?_
                      refine wg_region ?_
                      refine wo_v rfl (val_assign (v := (.int .i64 1)) rfl) ?_
                      refine wo_nil ?_
                      refine wg_ret ?_
                      replace hd2 := on_rt hd3 hd2
                      replace hd1 := on_rt hd2 hd1
                      replace hd0 := on_rt hd1 hd0
                      obtain rfl := Option.some.inj hd0
                      refine body_end (D := []) (J := [box b133 [(.int .i64 ((ix (ix m.rows x72) x107).to)), (.int .i64 ((ix (ix m.rows x72) x107).out))] 40]) (rs := [.tmp 2]) (vs := [(.int .i64 1)]) (((((((le4.trans le6).trans le37).trans le74).trans le86).trans le109).trans le136).trans le155) rfl rfl ⟨rfl, trivial⟩ ?_
                      exact ⟨rfl, rfl⟩
                    · replace hd3 := sel_f e202 hd3; clear e202
                      refine wg_skip ?_
                      exact ⟨(fun _ => rfl), (le136.trans le155), (by repeat (first | exact off_self | refine off_upd rfl ?_ | refine off_setl rfl ?_ | refine off_mask_sub rfl ?_)), (), trivial, ⟨[box b133 [(.int .i64 ((ix (ix m.rows x72) x107).to)), (.int .i64 ((ix (ix m.rows x72) x107).out))] 40], (List.Perm.refl _)⟩, (Option.some.inj hd3).symm, trivial⟩
                ·
                  rintro o115 j203 D204 R117 hD205 le118 ⟨rfl, _⟩
                  obtain rfl := hD205 rfl
                  replace hd2 := on_go hd2
                  refine wg_region ?_
                  refine wo_v rfl (val_move (v := (.int .i64 x107)) rfl) ?_
                  have g206 := (gd_some hd2).1; replace hd2 := (gd_some hd2).2
                  refine wo_v rfl (val_add rfl rfl g206) ?_
                  refine wo_v rfl (val_assign (v := (.int .i64 (x107 + 1))) rfl) ?_
                  refine wo_nil ?_
                  exact ⟨(fun _ => rfl), le118, (by repeat (first | exact off_self | refine off_upd rfl ?_ | refine off_setl rfl ?_ | refine off_mask_sub rfl ?_)), (F106, x107 + 1), Nat.lt_succ_self _, ⟨rfl, trivial⟩, ⟨[], List.Perm.refl _⟩, hd2, trivial⟩
              · replace hd2 := sel_f e114 hd2; clear e114
                refine wg_exit ?_
                exact ⟨(fun _ => rfl), (le86.trans le109), (by repeat (first | exact off_self | refine off_upd rfl ?_ | refine off_setl rfl ?_ | refine off_mask_sub rfl ?_)), (), trivial, ⟨[], List.Perm.refl _⟩, (Option.some.inj hd2).symm, trivial⟩
          ·
            rintro o80 j210 D211 R82 hD212 le83 ⟨rfl, _⟩
            obtain rfl := hD212 rfl
            replace hd1 := on_go hd1
            refine wg_region ?_
            refine wo_v rfl (val_move (v := (.int .i64 x72)) rfl) ?_
            have g213 := (gd_some hd1).1; replace hd1 := (gd_some hd1).2
            refine wo_v rfl (val_add rfl rfl g213) ?_
            refine wo_v rfl (val_assign (v := (.int .i64 (x72 + 1))) rfl) ?_
            refine wo_nil ?_
            exact ⟨(fun _ => rfl), le83, (by repeat (first | exact off_self | refine off_upd rfl ?_ | refine off_setl rfl ?_ | refine off_mask_sub rfl ?_)), (F71, x72 + 1), Nat.lt_succ_self _, ⟨rfl, trivial⟩, ⟨[], List.Perm.refl _⟩, hd1, trivial⟩
        · replace hd1 := sel_f e79 hd1; clear e79
          refine wg_exit ?_
          exact ⟨(fun _ => rfl), le74, (by repeat (first | exact off_self | refine off_upd rfl ?_ | refine off_setl rfl ?_ | refine off_mask_sub rfl ?_)), (), trivial, ⟨[], List.Perm.refl _⟩, (Option.some.inj hd1).symm, trivial⟩
      ·
        rintro o67 j217 D218 R69 hD219 le70 ⟨rfl, _⟩
        obtain rfl := hD219 rfl
        replace hd0 := on_go hd0
        refine wg_seq ?_
        refine wg_region ?_
        refine wo_v rfl (val_assign (v := (.int .i64 0)) rfl) ?_
        refine wo_nil ?_
        refine wg_ret ?_
        obtain rfl := Option.some.inj hd0
        refine body_end (D := []) (J := []) (rs := [.tmp 2]) (vs := [(.int .i64 0)]) (((le4.trans le6).trans le37).trans le70) rfl rfl ⟨rfl, trivial⟩ ?_
        exact ⟨rfl, rfl⟩
theorem en30 : Enters Try.prog 30 := enters_of Try.func30 rfl (by kernel_rfl)
theorem c_slices_EqualFunc__api_Edge {N : Nat} {R : RH} {s1_ : (List (List Edge))} {v_s1_ : Value} (h_s1_ : VRep (tSl false (tSl false kEdge)) R v_s1_ s1_) {s2_ : (List (List Edge))} {v_s2_ : Value} (h_s2_ : VRep (tSl false (tSl false kEdge)) R v_s2_ s2_) {eq : (List Edge) → (List Edge) → Option Bool} {v_eq : Value} (h_eq : FOk2 Try.prog R v_eq (tSl false kEdge) (tSl false kEdge) tBool eq) {r : Bool} (hd0 : slices_EqualFunc__api_Edge N s1_ s2_ eq = some r) : CallP Try.prog 50 #[v_s1_, v_s2_, v_eq] R (fun v R' => v = (.bool r)) := by
  refine callP_of_wg (args := [v_s1_, v_s2_, v_eq]) Try.func50 rfl rfl fun A => ?_
  rw [slices_EqualFunc__api_Edge] at hd0
  refine wg_seq ?_
  refine wg_region ?_
  refine wo_v rfl (val_assign (v := (.bool false)) rfl) ?_
  refine wo_nil ?_
  refine wg_seq ?_
  refine wg_seq ?_
  refine wg_region ?_
  refine wo_v rfl (val_move (v := v_s1_) rfl) ?_
  refine wo_v rfl (val_lenR rfl Try.underlying25 rfl (sl_s h_s1_)) ?_
  refine wo_v rfl (val_move (v := v_s2_) rfl) ?_
  refine wo_v rfl (val_lenR rfl Try.underlying25 rfl (sl_s h_s2_)) ?_
  refine wo_v rfl (val_neq rfl rfl) ?_
  refine wo_nil ?_
  refine wg_cond rfl (fun e1 => ?_) (fun e1 => ?_)
  · replace hd0 := sel_t e1 hd0; clear e1
    refine wg_seq ?_
    refine wg_region ?_
    refine wo_v rfl (val_assign (v := (.bool false)) rfl) ?_
    refine wo_nil ?_
    refine wg_ret ?_
    obtain rfl := Option.some.inj hd0
    refine body_end (D := []) (J := []) (rs := [.tmp 6]) (vs := [(.bool false)]) (RH.le.refl _) rfl rfl ⟨rfl, trivial⟩ ?_
    exact ⟨rfl, rfl⟩
  · replace hd0 := sel_f e1 hd0; clear e1
    refine wg_skip ?_
    replace hd0 := bd_some hd0; obtain ⟨q3, hd1, hd0⟩ := hd0
    refine wg_meet (γ := Unit) true [15, 16, 17, 18, 19, 20, 21, 7, 8, 22, 23, 24, 25, 9, 26, 27, 28, 29, 30, 6, 31] (fun g => []) (fun g => [] ++ A) (fun g R => q3 = Ex.go g ∧ True) ?_ ?_
    ·
      refine wg_seq ?_
      refine wg_region ?_
      refine wo_v rfl (val_move (v := v_s1_) rfl) ?_
      refine wo_v rfl (val_lenR rfl Try.underlying25 rfl (sl_s h_s1_)) ?_
      refine wo_v rfl (val_move (v := (.int .i64 0)) rfl) ?_
      refine wo_nil ?_
      refine wg_block ?_
      refine wg_loopS (γ := Nat × Int) true [18, 19, 20, 21, 7, 8, 22, 23, 24, 25, 9, 26, 27, 28, 29, 30, 6, 31, 17] (fun g => [(17, (.int .i64 g.2))]) (fun g => [] ++ A) (fun g R => slices_EqualFunc__api_Edge_L1 N s1_ s2_ eq g.1 g.2 = some q3 ∧ True) (fun g => g.1) (N, 0) ⟨rfl, trivial⟩ ⟨[], List.Perm.refl _⟩ ⟨hd1, trivial⟩ (fun _ => rfl) ?_
      clear hd1
      rintro ⟨F6, x7⟩ j29 D30 R8 hD31 le9 ⟨hd1, _⟩
      obtain rfl := hD31 rfl
      rcases F6 with _ | F6
      · exact none_elim hd1
      replace hd1 : slices_EqualFunc__api_Edge_L1 N s1_ s2_ eq (F6 + 1) x7 = some q3 := hd1; rw [slices_EqualFunc__api_Edge_L1] at hd1
      refine wg_seq ?_
      refine wg_region ?_
      refine wo_v rfl (val_lss rfl rfl) ?_
      refine wo_nil ?_
      refine wg_seq ?_
      refine wg_cond rfl (fun e10 => ?_) (fun e10 => ?_)
      · replace hd1 := sel_t e10 hd1; clear e10
        refine wg_skip ?_
        refine wg_seq ?_
        refine wg_block ?_
        refine wg_seq ?_
        refine wg_region ?_
        refine wo_v rfl (val_move (v := (.int .i64 x7)) rfl) ?_
        have g11 := (gd_some hd1).1; replace hd1 := (gd_some hd1).2
        refine wo_indexR (i := x7.toNat) rfl sl25 rfl (sl_s (h_s1_.mono le9)) (idx_nonneg rfl g11.1) (okI_lt g11) fun v12 h13 => ?_
        refine wo_loadR rfl ty41 rfl h13 fun v14 h15 => ?_
        refine wo_v rfl (val_assign (v := (.int .i64 x7)) rfl) ?_
        refine wo_v rfl (val_assign (v := v14) rfl) ?_
        refine wo_nil ?_
        refine wg_seq ?_
        refine wg_region ?_
        refine wo_v rfl (val_move (v := v_s2_) rfl) ?_
        refine wo_v rfl (val_move (v := (.int .i64 x7)) rfl) ?_
        have g16 := (gd_some hd1).1; replace hd1 := (gd_some hd1).2
        refine wo_indexR (i := x7.toNat) rfl sl25 rfl (sl_s (h_s2_.mono le9)) (idx_nonneg rfl g16.1) (okI_lt g16) fun v17 h18 => ?_
        refine wo_loadR rfl ty41 rfl h18 fun v19 h20 => ?_
        refine wo_v rfl (val_assign (v := v19) rfl) ?_
        refine wo_nil ?_
        refine wg_seq ?_
        refine wg_region ?_
        refine wo_v rfl (val_move (v := v_eq) rfl) ?_
        refine wo_v rfl (val_move (v := v14) rfl) ?_
        refine wo_v rfl (val_move (v := v19) rfl) ?_
        replace hd1 := bd_some hd1; obtain ⟨y21, c22, hd1⟩ := hd1
        refine wo_callF rfl rfl rfl ((h_eq.mono le9) _ (RH.le.refl _) (ix s1_ x7) (ix s2_ x7) _ _ _ h15 h20 c22) fun v25 R23 le24 h26 => ?_
        obtain rfl := vrep_bool.1 h26
        refine wo_v rfl (val_not rfl) ?_
        refine wo_nil ?_
        refine wg_cond rfl (fun e27 => ?_) (fun e27 => ?_)
        · replace hd1 := sel_t e27 hd1; clear e27
          refine wg_seq ?_
          refine wg_region ?_
          refine wo_v rfl (val_assign (v := (.bool false)) rfl) ?_
          refine wo_nil ?_
          refine wg_ret ?_
          replace hd0 := on_rt hd1 hd0
          obtain rfl := Option.some.inj hd0
          refine body_end (D := []) (J := []) (rs := [.tmp 6]) (vs := [(.bool false)]) (le9.trans le24) rfl rfl ⟨rfl, trivial⟩ ?_
          exact ⟨rfl, rfl⟩
        · replace hd1 := sel_f e27 hd1; clear e27
          refine wg_skip ?_
          refine wg_region ?_
          have g28 := (gd_some hd1).1; replace hd1 := (gd_some hd1).2
          refine wo_v rfl (val_add rfl rfl g28) ?_
          refine wo_v rfl (val_move (v := (.int .i64 (x7 + 1))) rfl) ?_
          refine wo_nil ?_
          exact ⟨(fun _ => rfl), le24, (by repeat (first | exact off_self | refine off_upd rfl ?_ | refine off_setl rfl ?_ | refine off_mask_sub rfl ?_)), (F6, x7 + 1), Nat.lt_succ_self _, ⟨rfl, trivial⟩, ⟨[], List.Perm.refl _⟩, hd1, trivial⟩
      · replace hd1 := sel_f e10 hd1; clear e10
        refine wg_exit ?_
        exact ⟨(fun _ => rfl), le9, (by repeat (first | exact off_self | refine off_upd rfl ?_ | refine off_setl rfl ?_ | refine off_mask_sub rfl ?_)), (), trivial, ⟨[], List.Perm.refl _⟩, (Option.some.inj hd1).symm, trivial⟩
    ·
      rintro o2 j32 D33 R4 hD34 le5 ⟨rfl, _⟩
      obtain rfl := hD34 rfl
      replace hd0 := on_go hd0
      refine wg_seq ?_
      refine wg_region ?_
      refine wo_v rfl (val_assign (v := (.bool true)) rfl) ?_
      refine wo_nil ?_
      refine wg_ret ?_
      obtain rfl := Option.some.inj hd0
      refine body_end (D := []) (J := []) (rs := [.tmp 6]) (vs := [(.bool true)]) le5 rfl rfl ⟨rfl, trivial⟩ ?_
      exact ⟨rfl, rfl⟩
theorem en50 : Enters Try.prog 50 := enters_of Try.func50 rfl (by kernel_rfl)
theorem c_slices_Equal_api_Edge {N : Nat} {R : RH} {s1_ : (List Edge)} {v_s1_ : Value} (h_s1_ : VRep (tSl false kEdge) R v_s1_ s1_) {s2_ : (List Edge)} {v_s2_ : Value} (h_s2_ : VRep (tSl false kEdge) R v_s2_ s2_) {r : Bool} (hd0 : slices_Equal_api_Edge N s1_ s2_ = some r) : CallP Try.prog 51 #[v_s1_, v_s2_] R (fun v R' => v = (.bool r)) := by
  refine callP_of_wg (args := [v_s1_, v_s2_]) Try.func51 rfl rfl fun A => ?_
  rw [slices_Equal_api_Edge] at hd0
  refine wg_seq ?_
  refine wg_region ?_
  refine wo_v rfl (val_assign (v := (.bool false)) rfl) ?_
  refine wo_nil ?_
  refine wg_seq ?_
  refine wg_seq ?_
  refine wg_region ?_
  refine wo_v rfl (val_move (v := v_s1_) rfl) ?_
  refine wo_v rfl (val_lenR rfl Try.underlying41 rfl (sl_s h_s1_)) ?_
  refine wo_v rfl (val_move (v := v_s2_) rfl) ?_
  refine wo_v rfl (val_lenR rfl Try.underlying41 rfl (sl_s h_s2_)) ?_
  refine wo_v rfl (val_neq rfl rfl) ?_
  refine wo_nil ?_
  refine wg_cond rfl (fun e1 => ?_) (fun e1 => ?_)
  · replace hd0 := sel_t e1 hd0; clear e1
    refine wg_seq ?_
    refine wg_region ?_
    refine wo_v rfl (val_assign (v := (.bool false)) rfl) ?_
    refine wo_nil ?_
    refine wg_ret ?_
    obtain rfl := Option.some.inj hd0
    refine body_end (D := []) (J := []) (rs := [.tmp 4]) (vs := [(.bool false)]) (RH.le.refl _) rfl rfl ⟨rfl, trivial⟩ ?_
    exact ⟨rfl, rfl⟩
  · replace hd0 := sel_f e1 hd0; clear e1
    refine wg_skip ?_
    replace hd0 := bd_some hd0; obtain ⟨q3, hd1, hd0⟩ := hd0
    refine wg_meet (γ := Unit) true [11, 12, 13, 14, 15, 5, 16, 17, 18, 19, 20, 21, 22, 23, 24, 4, 25] (fun g => []) (fun g => [] ++ A) (fun g R => q3 = Ex.go g ∧ True) ?_ ?_
    ·
      refine wg_seq ?_
      refine wg_region ?_
      refine wo_v rfl (val_move (v := v_s1_) rfl) ?_
      refine wo_v rfl (val_lenR rfl Try.underlying41 rfl (sl_s h_s1_)) ?_
      refine wo_v rfl (val_move (v := (.int .i64 0)) rfl) ?_
      refine wo_nil ?_
      refine wg_block ?_
      refine wg_loopS (γ := Nat × Int) true [14, 15, 5, 16, 17, 18, 19, 20, 21, 22, 23, 24, 4, 25, 13] (fun g => [(13, (.int .i64 g.2))]) (fun g => [] ++ A) (fun g R => slices_Equal_api_Edge_L1 N s1_ s2_ g.1 g.2 = some q3 ∧ True) (fun g => g.1) (N, 0) ⟨rfl, trivial⟩ ⟨[], List.Perm.refl _⟩ ⟨hd1, trivial⟩ (fun _ => rfl) ?_
      clear hd1
      rintro ⟨F6, x7⟩ j35 D36 R8 hD37 le9 ⟨hd1, _⟩
      obtain rfl := hD37 rfl
      rcases F6 with _ | F6
      · exact none_elim hd1
      replace hd1 : slices_Equal_api_Edge_L1 N s1_ s2_ (F6 + 1) x7 = some q3 := hd1; rw [slices_Equal_api_Edge_L1] at hd1
      refine wg_seq ?_
      refine wg_region ?_
      refine wo_v rfl (val_lss rfl rfl) ?_
      refine wo_nil ?_
      refine wg_seq ?_
      refine wg_cond rfl (fun e10 => ?_) (fun e10 => ?_)
      · replace hd1 := sel_t e10 hd1; clear e10
        refine wg_skip ?_
        refine wg_seq ?_
        refine wg_block ?_
        refine wg_seq ?_
        refine wg_region ?_
        refine wo_v rfl (val_move (v := (.int .i64 x7)) rfl) ?_
        refine wo_v rfl (val_assign (v := (.int .i64 x7)) rfl) ?_
        refine wo_nil ?_
        refine wg_seq ?_
        have g11 := (gd_some hd1).1; replace hd1 := (gd_some hd1).2
        have g12 := (gd_some hd1).1; replace hd1 := (gd_some hd1).2
        refine wg_drawn 9 [] [phX v_s1_, phX (.int .i64 x7), phP kEdge (ix s1_ x7), phX (enc_Edge (ix s1_ x7)), phX v_s2_, phX (.int .i64 x7), phP kEdge (ix s2_ x7), phX (enc_Edge (ix s2_ x7)), phX (.bool (decide (¬ (((ix s1_ x7).to) = ((ix s2_ x7).to) ∧ ((ix s1_ x7).out) = ((ix s2_ x7).out)))))] mixed (by kernel_rfl) (monoOk_of ⟨mono_x, mono_x, mono_p, mono_x, mono_x, mono_x, mono_p, mono_x, mono_x, trivial⟩) ⟨?_, ?_, ?_, ?_, ?_, ?_, ?_, ?_, ?_, trivial⟩ fun R13 le14 => ?_
        · intro l R0q hle ha hd
          have a0 : l 0 = v_s1_ := ha 0 rfl
          exact gstep_plain rfl rfl rfl (ph_val (val_move a0))
        · intro l R1q hle ha hd
          have a5 : l 5 = (.int .i64 x7) := ha 5 rfl
          exact gstep_plain rfl rfl rfl (ph_val (val_move a5))
        · intro l R2q hle ha hd
          obtain ⟨d0, d1, _⟩ := hd
          have f16 : l 16 = v_s1_ := d0 rfl
          have f17 : l 17 = (.int .i64 x7) := d1 rfl
          exact gstep_plain rfl rfl rfl (ph_indexR (i := x7.toNat) sl41 f16 (sl_s ((h_s1_.mono le9).mono hle)) (idx_nonneg f17 g11.1) (okI_lt g11))
        · intro l R3q hle ha hd
          obtain ⟨d0, _⟩ := hd
          have f18 : phP kEdge (ix s1_ x7) (l 18) R3q := d0 rfl
          exact gstep_plain rfl rfl rfl (ph_exact (ph_loadR ty40 rfl f18) (fun _ _ h => vrep_Edge.1 h))
        · intro l R4q hle ha hd
          have a1 : l 1 = v_s2_ := ha 1 rfl
          exact gstep_plain rfl rfl rfl (ph_val (val_move a1))
        · intro l R5q hle ha hd
          have a5 : l 5 = (.int .i64 x7) := ha 5 rfl
          exact gstep_plain rfl rfl rfl (ph_val (val_move a5))
        · intro l R6q hle ha hd
          obtain ⟨d0, d1, _⟩ := hd
          have f20 : l 20 = v_s2_ := d0 rfl
          have f21 : l 21 = (.int .i64 x7) := d1 rfl
          exact gstep_plain rfl rfl rfl (ph_indexR (i := x7.toNat) sl41 f20 (sl_s ((h_s2_.mono le9).mono hle)) (idx_nonneg f21 g12.1) (okI_lt g12))
        · intro l R7q hle ha hd
          obtain ⟨d0, _⟩ := hd
          have f22 : phP kEdge (ix s2_ x7) (l 22) R7q := d0 rfl
          exact gstep_plain rfl rfl rfl (ph_exact (ph_loadR ty40 rfl f22) (fun _ _ h => vrep_Edge.1 h))
        · intro l R8q hle ha hd
          obtain ⟨d0, d1, _⟩ := hd
          have f19 : l 19 = (enc_Edge (ix s1_ x7)) := d0 rfl
          have f23 : l 23 = (enc_Edge (ix s2_ x7)) := d1 rfl
          exact gstep_plain rfl rfl rfl (ph_val (val_neq2 eq40 f19 f23))
        intro v15 h16
        intro v17 h18
        intro v19 h20
        intro v21 h22
        intro v23 h24
        intro v25 h26
        intro v27 h28
        intro v29 h30
        intro v31 h32
        obtain rfl := Eq.symm h16
        obtain rfl := Eq.symm h18
        obtain rfl := Eq.symm h22
        obtain rfl := Eq.symm h24
        obtain rfl := Eq.symm h26
        obtain rfl := Eq.symm h30
        obtain rfl := Eq.symm h32
        refine wo_nil ?_
        refine wg_cond rfl (fun e33 => ?_) (fun e33 => ?_)
        · replace hd1 := sel_t e33 hd1; clear e33
          refine wg_seq ?_
          refine wg_region ?_
          refine wo_v rfl (val_assign (v := (.bool false)) rfl) ?_
          refine wo_nil ?_
          refine wg_ret ?_
          replace hd0 := on_rt hd1 hd0
          obtain rfl := Option.some.inj hd0
          refine body_end (D := []) (J := []) (rs := [.tmp 4]) (vs := [(.bool false)]) (le9.trans le14) rfl rfl ⟨rfl, trivial⟩ ?_
          exact ⟨rfl, rfl⟩
        · replace hd1 := sel_f e33 hd1; clear e33
          refine wg_skip ?_
          refine wg_region ?_
          have g34 := (gd_some hd1).1; replace hd1 := (gd_some hd1).2
          refine wo_v rfl (val_add rfl rfl g34) ?_
          refine wo_v rfl (val_move (v := (.int .i64 (x7 + 1))) rfl) ?_
          refine wo_nil ?_
          exact ⟨(fun _ => rfl), le14, (by repeat (first | exact off_self | refine off_upd rfl ?_ | refine off_setl rfl ?_ | refine off_mask_sub rfl ?_)), (F6, x7 + 1), Nat.lt_succ_self _, ⟨rfl, trivial⟩, ⟨[], List.Perm.refl _⟩, hd1, trivial⟩
      · replace hd1 := sel_f e10 hd1; clear e10
        refine wg_exit ?_
        exact ⟨(fun _ => rfl), le9, (by repeat (first | exact off_self | refine off_upd rfl ?_ | refine off_setl rfl ?_ | refine off_mask_sub rfl ?_)), (), trivial, ⟨[], List.Perm.refl _⟩, (Option.some.inj hd1).symm, trivial⟩
    ·
      rintro o2 j38 D39 R4 hD40 le5 ⟨rfl, _⟩
      obtain rfl := hD40 rfl
      replace hd0 := on_go hd0
      refine wg_seq ?_
      refine wg_region ?_
      refine wo_v rfl (val_assign (v := (.bool true)) rfl) ?_
      refine wo_nil ?_
      refine wg_ret ?_
      obtain rfl := Option.some.inj hd0
      refine body_end (D := []) (J := []) (rs := [.tmp 4]) (vs := [(.bool true)]) le5 rfl rfl ⟨rfl, trivial⟩ ?_
      exact ⟨rfl, rfl⟩
theorem en51 : Enters Try.prog 51 := enters_of Try.func51 rfl (by kernel_rfl)
theorem c_machines_Same {N : Nat} {R : RH} {a : Mach} {v_a : Value} (h_a : VRep (kMach false false) R v_a a) {b : Mach} {v_b : Value} (h_b : VRep (kMach false false) R v_b b) {r : Bool} (hd0 : machines_Same N a b = some r) : CallP Try.prog 32 #[v_a, v_b] R (fun v R' => v = (.bool r)) := by
  refine callP_of_wg (args := [v_a, v_b]) Try.func32 rfl rfl fun A => ?_
  rw [machines_Same] at hd0
  refine wg_seq ?_
  refine wg_region ?_
  refine wo_boxR (T := (kMach false false)) rfl rfl h_a fun v1 R3 le4 h2 => ?_
  refine wo_boxR (T := (kMach false false)) rfl rfl (h_b.mono le4) fun v5 R7 le8 h6 => ?_
  refine wo_v rfl (val_assign (v := (.bool false)) rfl) ?_
  refine wo_nil ?_
  refine wg_seq ?_
  replace hd0 := bd_some hd0; obtain ⟨y9, c10, hd0⟩ := hd0
  replace hd0 := bd_some hd0; obtain ⟨y11, c12, hd0⟩ := hd0
  replace hd0 := bd_some hd0; obtain ⟨y13, c14, hd0⟩ := hd0
  refine wg_guarded 30 [] [phR (kMach false false) a, phX (.int .i64 y9), phX (.bool (decide (y9 = 0))), phX (.bool (decide (y9 = 0))), phG (true && ((decide (y9 = 0)) == true)) (phR (kMach false false) b), phG (true && ((decide (y9 = 0)) == true)) (phX (.int .i64 (y11.getD default))), phG (true && ((decide (y9 = 0)) == true)) (phX (.bool (decide ((y11.getD default) = 0)))), phX (.bool ((decide (y9 = 0)) && (decide ((y11.getD default) = 0)))), phX (.bool ((decide (y9 = 0)) && (decide ((y11.getD default) = 0)))), phG (true && (((decide (y9 = 0)) && (decide ((y11.getD default) = 0))) == true)) (phP (tInt .i64) a.inputs), phG (true && (((decide (y9 = 0)) && (decide ((y11.getD default) = 0))) == true)) (phX (.int .i64 a.inputs)), phG (true && (((decide (y9 = 0)) && (decide ((y11.getD default) = 0))) == true)) (phP (tInt .i64) b.inputs), phG (true && (((decide (y9 = 0)) && (decide ((y11.getD default) = 0))) == true)) (phX (.int .i64 b.inputs)), phG (true && (((decide (y9 = 0)) && (decide ((y11.getD default) = 0))) == true)) (phX (.bool (decide (a.inputs = b.inputs)))), phX (.bool (((decide (y9 = 0)) && (decide ((y11.getD default) = 0))) && (decide (a.inputs = b.inputs)))), phX (.bool (((decide (y9 = 0)) && (decide ((y11.getD default) = 0))) && (decide (a.inputs = b.inputs)))), phG (true && ((((decide (y9 = 0)) && (decide ((y11.getD default) = 0))) && (decide (a.inputs = b.inputs))) == true)) (phP (tInt .i64) a.outputs), phG (true && ((((decide (y9 = 0)) && (decide ((y11.getD default) = 0))) && (decide (a.inputs = b.inputs))) == true)) (phX (.int .i64 a.outputs)), phG (true && ((((decide (y9 = 0)) && (decide ((y11.getD default) = 0))) && (decide (a.inputs = b.inputs))) == true)) (phP (tInt .i64) b.outputs), phG (true && ((((decide (y9 = 0)) && (decide ((y11.getD default) = 0))) && (decide (a.inputs = b.inputs))) == true)) (phX (.int .i64 b.outputs)), phG (true && ((((decide (y9 = 0)) && (decide ((y11.getD default) = 0))) && (decide (a.inputs = b.inputs))) == true)) (phX (.bool (decide (a.outputs = b.outputs)))), phX (.bool ((((decide (y9 = 0)) && (decide ((y11.getD default) = 0))) && (decide (a.inputs = b.inputs))) && (decide (a.outputs = b.outputs)))), phX (.bool ((((decide (y9 = 0)) && (decide ((y11.getD default) = 0))) && (decide (a.inputs = b.inputs))) && (decide (a.outputs = b.outputs)))), phG (true && (((((decide (y9 = 0)) && (decide ((y11.getD default) = 0))) && (decide (a.inputs = b.inputs))) && (decide (a.outputs = b.outputs))) == true)) (phP (tSl false (tSl false kEdge)) a.rows), phG (true && (((((decide (y9 = 0)) && (decide ((y11.getD default) = 0))) && (decide (a.inputs = b.inputs))) && (decide (a.outputs = b.outputs))) == true)) (phR (tSl false (tSl false kEdge)) a.rows), phG (true && (((((decide (y9 = 0)) && (decide ((y11.getD default) = 0))) && (decide (a.inputs = b.inputs))) && (decide (a.outputs = b.outputs))) == true)) (phP (tSl false (tSl false kEdge)) b.rows), phG (true && (((((decide (y9 = 0)) && (decide ((y11.getD default) = 0))) && (decide (a.inputs = b.inputs))) && (decide (a.outputs = b.outputs))) == true)) (phR (tSl false (tSl false kEdge)) b.rows), phG (true && (((((decide (y9 = 0)) && (decide ((y11.getD default) = 0))) && (decide (a.inputs = b.inputs))) && (decide (a.outputs = b.outputs))) == true)) (phX (.bool (y13.getD default))), phX (.bool (((((decide (y9 = 0)) && (decide ((y11.getD default) = 0))) && (decide (a.inputs = b.inputs))) && (decide (a.outputs = b.outputs))) && (y13.getD default))), phX (.bool (((((decide (y9 = 0)) && (decide ((y11.getD default) = 0))) && (decide (a.inputs = b.inputs))) && (decide (a.outputs = b.outputs))) && (y13.getD default)))] (by kernel_rfl) (by kernel_rfl) (monoOk_of ⟨mono_r, mono_x, mono_x, mono_x, (mono_g mono_r), (mono_g mono_x), (mono_g mono_x), mono_x, mono_x, (mono_g mono_p), (mono_g mono_x), (mono_g mono_p), (mono_g mono_x), (mono_g mono_x), mono_x, mono_x, (mono_g mono_p), (mono_g mono_x), (mono_g mono_p), (mono_g mono_x), (mono_g mono_x), mono_x, mono_x, (mono_g mono_p), (mono_g mono_r), (mono_g mono_p), (mono_g mono_r), (mono_g mono_x), mono_x, mono_x, trivial⟩) ⟨?_, ?_, ?_, ?_, ?_, ?_, ?_, ?_, ?_, ?_, ?_, ?_, ?_, ?_, ?_, ?_, ?_, ?_, ?_, ?_, ?_, ?_, ?_, ?_, ?_, ?_, ?_, ?_, ?_, ?_, trivial⟩ fun R15 le16 => ?_
  · intro l R0q hle ha hd
    have a2 : l 2 = v1 := ha 2 rfl
    exact gstep_plain rfl rfl rfl (ph_loadR ty27 a2 ((h2.mono le8).mono hle))
  · intro l R1q hle ha hd
    obtain ⟨d0, _⟩ := hd
    have f5 : phR (kMach false false) a (l 5) R1q := d0 rfl
    exact gstep_plain rfl rfl rfl (ph_callP en31 rfl (c_machines_Check f5 c10) (fun _ _ h => h))
  · intro l R2q hle ha hd
    obtain ⟨d0, _⟩ := hd
    have f6 : l 6 = (.int .i64 y9) := d0 rfl
    exact gstep_plain rfl rfl rfl (ph_val (val_eql f6 rfl))
  · intro l R3q hle ha hd
    obtain ⟨d0, d1, _⟩ := hd
    have f7 : l 7 = (.bool (decide (y9 = 0))) := d0 rfl
    exact gstep_plain rfl rfl rfl (ph_val (val_move f7))
  · intro l R4q hle ha hd
    obtain ⟨d0, _⟩ := hd
    have a3 : l 3 = v5 := ha 3 rfl
    exact gstep_guard (Gj := true) (Bj := decide (y9 = 0)) rfl rfl rfl (gtrue (d0 rfl)) rfl (fun hG hB => ph_loadR ty27 a3 (h6.mono hle))
  · intro l R5q hle ha hd
    obtain ⟨d0, d1, d2, _⟩ := hd
    have f9g : phG (true && ((decide (y9 = 0)) == true)) (phR (kMach false false) b) (l 9) R5q := d0 rfl
    exact gstep_guard (Gj := true) (Bj := decide (y9 = 0)) rfl rfl rfl (gtrue (d1 rfl)) rfl (fun hG hB => ph_callP en31 rfl (c_machines_Check (f9g.1 (gandT rfl hB)) (gop_def c12 (gandT hG hB))) (fun _ _ h => h))
  · intro l R6q hle ha hd
    obtain ⟨d0, d1, _⟩ := hd
    have f10g : phG (true && ((decide (y9 = 0)) == true)) (phX (.int .i64 (y11.getD default))) (l 10) R6q := d0 rfl
    exact gstep_guard (Gj := true) (Bj := decide (y9 = 0)) rfl rfl rfl (gtrue (d1 rfl)) rfl (fun hG hB => ph_val (val_eql (show l 10 = (.int .i64 (y11.getD default)) from f10g.1 (gandT rfl hB)) rfl))
  · intro l R7q hle ha hd
    obtain ⟨d0, d1, _⟩ := hd
    have f8 : l 8 = (.bool (decide (y9 = 0))) := d0 rfl
    have f11g : phG (true && ((decide (y9 = 0)) == true)) (phX (.bool (decide ((y11.getD default) = 0)))) (l 11) R7q := d1 rfl
    exact gstep_plain rfl rfl rfl (ph_val (val_and f8 (fun hb => (show l 11 = (.bool (decide ((y11.getD default) = 0))) from f11g.1 (gandT rfl hb))) rfl))
  · intro l R8q hle ha hd
    obtain ⟨d0, d1, _⟩ := hd
    have f12 : l 12 = (.bool ((decide (y9 = 0)) && (decide ((y11.getD default) = 0)))) := d0 rfl
    exact gstep_plain rfl rfl rfl (ph_val (val_move f12))
  · intro l R9q hle ha hd
    obtain ⟨d0, _⟩ := hd
    have a2 : l 2 = v1 := ha 2 rfl
    exact gstep_guard (Gj := true) (Bj := (decide (y9 = 0)) && (decide ((y11.getD default) = 0))) rfl rfl rfl (gtrue (d0 rfl)) rfl (fun hG hB => ph_fieldR fd27_0 pt_Mach0 a2 ((h2.mono le8).mono hle))
  · intro l R10q hle ha hd
    obtain ⟨d0, d1, _⟩ := hd
    have f14g : phG (true && (((decide (y9 = 0)) && (decide ((y11.getD default) = 0))) == true)) (phP (tInt .i64) a.inputs) (l 14) R10q := d0 rfl
    exact gstep_guard (Gj := true) (Bj := (decide (y9 = 0)) && (decide ((y11.getD default) = 0))) rfl rfl rfl (gtrue (d1 rfl)) rfl (fun hG hB => ph_exact (ph_loadR ty3 rfl (f14g.1 (gandT rfl hB))) (fun _ _ h => vrep_int.1 h))
  · intro l R11q hle ha hd
    obtain ⟨d0, _⟩ := hd
    have a3 : l 3 = v5 := ha 3 rfl
    exact gstep_guard (Gj := true) (Bj := (decide (y9 = 0)) && (decide ((y11.getD default) = 0))) rfl rfl rfl (gtrue (d0 rfl)) rfl (fun hG hB => ph_fieldR fd27_0 pt_Mach0 a3 (h6.mono hle))
  · intro l R12q hle ha hd
    obtain ⟨d0, d1, _⟩ := hd
    have f16g : phG (true && (((decide (y9 = 0)) && (decide ((y11.getD default) = 0))) == true)) (phP (tInt .i64) b.inputs) (l 16) R12q := d0 rfl
    exact gstep_guard (Gj := true) (Bj := (decide (y9 = 0)) && (decide ((y11.getD default) = 0))) rfl rfl rfl (gtrue (d1 rfl)) rfl (fun hG hB => ph_exact (ph_loadR ty3 rfl (f16g.1 (gandT rfl hB))) (fun _ _ h => vrep_int.1 h))
  · intro l R13q hle ha hd
    obtain ⟨d0, d1, d2, _⟩ := hd
    have f15g : phG (true && (((decide (y9 = 0)) && (decide ((y11.getD default) = 0))) == true)) (phX (.int .i64 a.inputs)) (l 15) R13q := d0 rfl
    have f17g : phG (true && (((decide (y9 = 0)) && (decide ((y11.getD default) = 0))) == true)) (phX (.int .i64 b.inputs)) (l 17) R13q := d1 rfl
    exact gstep_guard (Gj := true) (Bj := (decide (y9 = 0)) && (decide ((y11.getD default) = 0))) rfl rfl rfl (gtrue (d2 rfl)) rfl (fun hG hB => ph_val (val_eql (show l 15 = (.int .i64 a.inputs) from f15g.1 (gandT rfl hB)) (show l 17 = (.int .i64 b.inputs) from f17g.1 (gandT rfl hB))))
  · intro l R14q hle ha hd
    obtain ⟨d0, d1, _⟩ := hd
    have f13 : l 13 = (.bool ((decide (y9 = 0)) && (decide ((y11.getD default) = 0)))) := d0 rfl
    have f18g : phG (true && (((decide (y9 = 0)) && (decide ((y11.getD default) = 0))) == true)) (phX (.bool (decide (a.inputs = b.inputs)))) (l 18) R14q := d1 rfl
    exact gstep_plain rfl rfl rfl (ph_val (val_and f13 (fun hb => (show l 18 = (.bool (decide (a.inputs = b.inputs))) from f18g.1 (gandT rfl hb))) rfl))
  · intro l R15q hle ha hd
    obtain ⟨d0, d1, _⟩ := hd
    have f19 : l 19 = (.bool (((decide (y9 = 0)) && (decide ((y11.getD default) = 0))) && (decide (a.inputs = b.inputs)))) := d0 rfl
    exact gstep_plain rfl rfl rfl (ph_val (val_move f19))
  · intro l R16q hle ha hd
    obtain ⟨d0, _⟩ := hd
    have a2 : l 2 = v1 := ha 2 rfl
    exact gstep_guard (Gj := true) (Bj := ((decide (y9 = 0)) && (decide ((y11.getD default) = 0))) && (decide (a.inputs = b.inputs))) rfl rfl rfl (gtrue (d0 rfl)) rfl (fun hG hB => ph_fieldR fd27_1 pt_Mach1 a2 ((h2.mono le8).mono hle))
  · intro l R17q hle ha hd
    obtain ⟨d0, d1, _⟩ := hd
    have f21g : phG (true && ((((decide (y9 = 0)) && (decide ((y11.getD default) = 0))) && (decide (a.inputs = b.inputs))) == true)) (phP (tInt .i64) a.outputs) (l 21) R17q := d0 rfl
    exact gstep_guard (Gj := true) (Bj := ((decide (y9 = 0)) && (decide ((y11.getD default) = 0))) && (decide (a.inputs = b.inputs))) rfl rfl rfl (gtrue (d1 rfl)) rfl (fun hG hB => ph_exact (ph_loadR ty3 rfl (f21g.1 (gandT rfl hB))) (fun _ _ h => vrep_int.1 h))
  · intro l R18q hle ha hd
    obtain ⟨d0, _⟩ := hd
    have a3 : l 3 = v5 := ha 3 rfl
    exact gstep_guard (Gj := true) (Bj := ((decide (y9 = 0)) && (decide ((y11.getD default) = 0))) && (decide (a.inputs = b.inputs))) rfl rfl rfl (gtrue (d0 rfl)) rfl (fun hG hB => ph_fieldR fd27_1 pt_Mach1 a3 (h6.mono hle))
  · intro l R19q hle ha hd
    obtain ⟨d0, d1, _⟩ := hd
    have f23g : phG (true && ((((decide (y9 = 0)) && (decide ((y11.getD default) = 0))) && (decide (a.inputs = b.inputs))) == true)) (phP (tInt .i64) b.outputs) (l 23) R19q := d0 rfl
    exact gstep_guard (Gj := true) (Bj := ((decide (y9 = 0)) && (decide ((y11.getD default) = 0))) && (decide (a.inputs = b.inputs))) rfl rfl rfl (gtrue (d1 rfl)) rfl (fun hG hB => ph_exact (ph_loadR ty3 rfl (f23g.1 (gandT rfl hB))) (fun _ _ h => vrep_int.1 h))
  · intro l R20q hle ha hd
    obtain ⟨d0, d1, d2, _⟩ := hd
    have f22g : phG (true && ((((decide (y9 = 0)) && (decide ((y11.getD default) = 0))) && (decide (a.inputs = b.inputs))) == true)) (phX (.int .i64 a.outputs)) (l 22) R20q := d0 rfl
    have f24g : phG (true && ((((decide (y9 = 0)) && (decide ((y11.getD default) = 0))) && (decide (a.inputs = b.inputs))) == true)) (phX (.int .i64 b.outputs)) (l 24) R20q := d1 rfl
    exact gstep_guard (Gj := true) (Bj := ((decide (y9 = 0)) && (decide ((y11.getD default) = 0))) && (decide (a.inputs = b.inputs))) rfl rfl rfl (gtrue (d2 rfl)) rfl (fun hG hB => ph_val (val_eql (show l 22 = (.int .i64 a.outputs) from f22g.1 (gandT rfl hB)) (show l 24 = (.int .i64 b.outputs) from f24g.1 (gandT rfl hB))))
  · intro l R21q hle ha hd
    obtain ⟨d0, d1, _⟩ := hd
    have f20 : l 20 = (.bool (((decide (y9 = 0)) && (decide ((y11.getD default) = 0))) && (decide (a.inputs = b.inputs)))) := d0 rfl
    have f25g : phG (true && ((((decide (y9 = 0)) && (decide ((y11.getD default) = 0))) && (decide (a.inputs = b.inputs))) == true)) (phX (.bool (decide (a.outputs = b.outputs)))) (l 25) R21q := d1 rfl
    exact gstep_plain rfl rfl rfl (ph_val (val_and f20 (fun hb => (show l 25 = (.bool (decide (a.outputs = b.outputs))) from f25g.1 (gandT rfl hb))) rfl))
  · intro l R22q hle ha hd
    obtain ⟨d0, d1, _⟩ := hd
    have f26 : l 26 = (.bool ((((decide (y9 = 0)) && (decide ((y11.getD default) = 0))) && (decide (a.inputs = b.inputs))) && (decide (a.outputs = b.outputs)))) := d0 rfl
    exact gstep_plain rfl rfl rfl (ph_val (val_move f26))
  · intro l R23q hle ha hd
    obtain ⟨d0, _⟩ := hd
    have a2 : l 2 = v1 := ha 2 rfl
    exact gstep_guard (Gj := true) (Bj := (((decide (y9 = 0)) && (decide ((y11.getD default) = 0))) && (decide (a.inputs = b.inputs))) && (decide (a.outputs = b.outputs))) rfl rfl rfl (gtrue (d0 rfl)) rfl (fun hG hB => ph_fieldR fd27_2 pt_Mach2 a2 ((h2.mono le8).mono hle))
  · intro l R24q hle ha hd
    obtain ⟨d0, d1, _⟩ := hd
    have f28g : phG (true && (((((decide (y9 = 0)) && (decide ((y11.getD default) = 0))) && (decide (a.inputs = b.inputs))) && (decide (a.outputs = b.outputs))) == true)) (phP (tSl false (tSl false kEdge)) a.rows) (l 28) R24q := d0 rfl
    exact gstep_guard (Gj := true) (Bj := (((decide (y9 = 0)) && (decide ((y11.getD default) = 0))) && (decide (a.inputs = b.inputs))) && (decide (a.outputs = b.outputs))) rfl rfl rfl (gtrue (d1 rfl)) rfl (fun hG hB => ph_loadR ty25 rfl (f28g.1 (gandT rfl hB)))
  · intro l R25q hle ha hd
    obtain ⟨d0, _⟩ := hd
    have a3 : l 3 = v5 := ha 3 rfl
    exact gstep_guard (Gj := true) (Bj := (((decide (y9 = 0)) && (decide ((y11.getD default) = 0))) && (decide (a.inputs = b.inputs))) && (decide (a.outputs = b.outputs))) rfl rfl rfl (gtrue (d0 rfl)) rfl (fun hG hB => ph_fieldR fd27_2 pt_Mach2 a3 (h6.mono hle))
  · intro l R26q hle ha hd
    obtain ⟨d0, d1, _⟩ := hd
    have f30g : phG (true && (((((decide (y9 = 0)) && (decide ((y11.getD default) = 0))) && (decide (a.inputs = b.inputs))) && (decide (a.outputs = b.outputs))) == true)) (phP (tSl false (tSl false kEdge)) b.rows) (l 30) R26q := d0 rfl
    exact gstep_guard (Gj := true) (Bj := (((decide (y9 = 0)) && (decide ((y11.getD default) = 0))) && (decide (a.inputs = b.inputs))) && (decide (a.outputs = b.outputs))) rfl rfl rfl (gtrue (d1 rfl)) rfl (fun hG hB => ph_loadR ty25 rfl (f30g.1 (gandT rfl hB)))
  · intro l R27q hle ha hd
    obtain ⟨d0, d1, d2, d3, _⟩ := hd
    have f29g : phG (true && (((((decide (y9 = 0)) && (decide ((y11.getD default) = 0))) && (decide (a.inputs = b.inputs))) && (decide (a.outputs = b.outputs))) == true)) (phR (tSl false (tSl false kEdge)) a.rows) (l 29) R27q := d0 rfl
    have f31g : phG (true && (((((decide (y9 = 0)) && (decide ((y11.getD default) = 0))) && (decide (a.inputs = b.inputs))) && (decide (a.outputs = b.outputs))) == true)) (phR (tSl false (tSl false kEdge)) b.rows) (l 31) R27q := d1 rfl
    exact gstep_guard (Gj := true) (Bj := (((decide (y9 = 0)) && (decide ((y11.getD default) = 0))) && (decide (a.inputs = b.inputs))) && (decide (a.outputs = b.outputs))) rfl rfl rfl (gtrue (d2 rfl)) rfl (fun hG hB => ph_callP en50 rfl (c_slices_EqualFunc__api_Edge (f29g.1 (gandT rfl hB)) (f31g.1 (gandT rfl hB)) ((fok2_of (cs := []) en51 fun R1 hq z0 z1 u0 u1 y k0 k1 hy => by exact CallP.mono (c_slices_Equal_api_Edge k0 k1 hy) fun v R2 _ hv => vrep_bool.2 hv).mono hle) (gop_def c14 (gandT hG hB))) (fun _ _ h => h))
  · intro l R28q hle ha hd
    obtain ⟨d0, d1, _⟩ := hd
    have f27 : l 27 = (.bool ((((decide (y9 = 0)) && (decide ((y11.getD default) = 0))) && (decide (a.inputs = b.inputs))) && (decide (a.outputs = b.outputs)))) := d0 rfl
    have f32g : phG (true && (((((decide (y9 = 0)) && (decide ((y11.getD default) = 0))) && (decide (a.inputs = b.inputs))) && (decide (a.outputs = b.outputs))) == true)) (phX (.bool (y13.getD default))) (l 32) R28q := d1 rfl
    exact gstep_plain rfl rfl rfl (ph_val (val_and f27 (fun hb => (show l 32 = (.bool (y13.getD default)) from f32g.1 (gandT rfl hb))) rfl))
  · intro l R29q hle ha hd
    obtain ⟨d0, d1, d2, d3, d4, d5, d6, d7, d8, d9, d10, d11, d12, d13, d14, d15, d16, d17, d18, d19, d20, d21, d22, d23, d24, d25, d26, d27, d28, d29, d30, _⟩ := hd
    have f33 : l 33 = (.bool (((((decide (y9 = 0)) && (decide ((y11.getD default) = 0))) && (decide (a.inputs = b.inputs))) && (decide (a.outputs = b.outputs))) && (y13.getD default))) := d0 rfl
    exact gstep_plain rfl rfl rfl (ph_val (val_assign f33))
  intro v17 h18
  intro v19 h20
  intro v21 h22
  intro v23 h24
  intro v25 h26
  intro v27 h28
  intro v29 h30
  intro v31 h32
  intro v33 h34
  intro v35 h36
  intro v37 h38
  intro v39 h40
  intro v41 h42
  intro v43 h44
  intro v45 h46
  intro v47 h48
  intro v49 h50
  intro v51 h52
  intro v53 h54
  intro v55 h56
  intro v57 h58
  intro v59 h60
  intro v61 h62
  intro v63 h64
  intro v65 h66
  intro v67 h68
  intro v69 h70
  intro v71 h72
  intro v73 h74
  intro v75 h76
  obtain rfl := Eq.symm h20
  obtain rfl := Eq.symm h22
  obtain rfl := Eq.symm h24
  obtain rfl := Eq.symm h32
  obtain rfl := Eq.symm h34
  obtain rfl := Eq.symm h46
  obtain rfl := Eq.symm h48
  obtain rfl := Eq.symm h60
  obtain rfl := Eq.symm h62
  obtain rfl := Eq.symm h74
  obtain rfl := Eq.symm h76
  refine wo_nil ?_
  refine wg_ret ?_
  obtain rfl := Option.some.inj hd0
  refine body_end (D := []) (J := []) (rs := [.tmp 4]) (vs := [(.bool (((((decide (y9 = 0)) && (decide ((y11.getD default) = 0))) && (decide (a.inputs = b.inputs))) && (decide (a.outputs = b.outputs))) && (y13.getD default)))]) ((le4.trans le8).trans le16) rfl rfl ⟨rfl, trivial⟩ ?_
  exact ⟨rfl, rfl⟩
theorem en32 : Enters Try.prog 32 := enters_of Try.func32 rfl (by kernel_rfl)
theorem c_gauntletref04_Same {N : Nat} {R : RH} {a : Mach} {v_a : Value} (h_a : VRep (kMach false false) R v_a a) {b : Mach} {v_b : Value} (h_b : VRep (kMach false false) R v_b b) {r : Bool} (hd0 : gauntletref04_Same N a b = some r) : CallP Try.prog 36 #[v_a, v_b] R (fun v R' => v = (.bool r)) := by
  refine callP_of_wg (args := [v_a, v_b]) Try.func36 rfl rfl fun A => ?_
  rw [gauntletref04_Same] at hd0
  refine wg_seq ?_
  refine wg_region ?_
  refine wo_boxR (T := (kMach false false)) rfl rfl h_a fun v1 R3 le4 h2 => ?_
  refine wo_boxR (T := (kMach false false)) rfl rfl (h_b.mono le4) fun v5 R7 le8 h6 => ?_
  refine wo_v rfl (val_assign (v := (.bool false)) rfl) ?_
  refine wo_nil ?_
  refine wg_seq ?_
  refine wg_seq ?_
  refine wg_guarded 21 [] [phP (tInt .i64) a.inputs, phX (.int .i64 a.inputs), phP (tInt .i64) b.inputs, phX (.int .i64 b.inputs), phX (.bool (decide (a.inputs ≠ b.inputs))), phX (.bool (decide (a.inputs ≠ b.inputs))), phG (true && ((decide (a.inputs ≠ b.inputs)) == false)) (phP (tInt .i64) a.outputs), phG (true && ((decide (a.inputs ≠ b.inputs)) == false)) (phX (.int .i64 a.outputs)), phG (true && ((decide (a.inputs ≠ b.inputs)) == false)) (phP (tInt .i64) b.outputs), phG (true && ((decide (a.inputs ≠ b.inputs)) == false)) (phX (.int .i64 b.outputs)), phG (true && ((decide (a.inputs ≠ b.inputs)) == false)) (phX (.bool (decide (a.outputs ≠ b.outputs)))), phX (.bool ((decide (a.inputs ≠ b.inputs)) || (decide (a.outputs ≠ b.outputs)))), phX (.bool ((decide (a.inputs ≠ b.inputs)) || (decide (a.outputs ≠ b.outputs)))), phG (true && (((decide (a.inputs ≠ b.inputs)) || (decide (a.outputs ≠ b.outputs))) == false)) (phP (tSl false (tSl false kEdge)) a.rows), phG (true && (((decide (a.inputs ≠ b.inputs)) || (decide (a.outputs ≠ b.outputs))) == false)) (phR (tSl false (tSl false kEdge)) a.rows), phG (true && (((decide (a.inputs ≠ b.inputs)) || (decide (a.outputs ≠ b.outputs))) == false)) (phX (.int .i64 (↑a.rows.length : Int))), phG (true && (((decide (a.inputs ≠ b.inputs)) || (decide (a.outputs ≠ b.outputs))) == false)) (phP (tSl false (tSl false kEdge)) b.rows), phG (true && (((decide (a.inputs ≠ b.inputs)) || (decide (a.outputs ≠ b.outputs))) == false)) (phR (tSl false (tSl false kEdge)) b.rows), phG (true && (((decide (a.inputs ≠ b.inputs)) || (decide (a.outputs ≠ b.outputs))) == false)) (phX (.int .i64 (↑b.rows.length : Int))), phG (true && (((decide (a.inputs ≠ b.inputs)) || (decide (a.outputs ≠ b.outputs))) == false)) (phX (.bool (decide ((↑a.rows.length : Int) ≠ (↑b.rows.length : Int))))), phX (.bool (((decide (a.inputs ≠ b.inputs)) || (decide (a.outputs ≠ b.outputs))) || (decide ((↑a.rows.length : Int) ≠ (↑b.rows.length : Int)))))] (by kernel_rfl) (by kernel_rfl) (monoOk_of ⟨mono_p, mono_x, mono_p, mono_x, mono_x, mono_x, (mono_g mono_p), (mono_g mono_x), (mono_g mono_p), (mono_g mono_x), (mono_g mono_x), mono_x, mono_x, (mono_g mono_p), (mono_g mono_r), (mono_g mono_x), (mono_g mono_p), (mono_g mono_r), (mono_g mono_x), (mono_g mono_x), mono_x, trivial⟩) ⟨?_, ?_, ?_, ?_, ?_, ?_, ?_, ?_, ?_, ?_, ?_, ?_, ?_, ?_, ?_, ?_, ?_, ?_, ?_, ?_, ?_, trivial⟩ fun R9 le10 => ?_
  · intro l R0q hle ha hd
    have a2 : l 2 = v1 := ha 2 rfl
    exact gstep_plain rfl rfl rfl (ph_fieldR fd27_0 pt_Mach0 a2 ((h2.mono le8).mono hle))
  · intro l R1q hle ha hd
    obtain ⟨d0, _⟩ := hd
    have f7 : phP (tInt .i64) a.inputs (l 7) R1q := d0 rfl
    exact gstep_plain rfl rfl rfl (ph_exact (ph_loadR ty3 rfl f7) (fun _ _ h => vrep_int.1 h))
  · intro l R2q hle ha hd
    have a3 : l 3 = v5 := ha 3 rfl
    exact gstep_plain rfl rfl rfl (ph_fieldR fd27_0 pt_Mach0 a3 (h6.mono hle))
  · intro l R3q hle ha hd
    obtain ⟨d0, _⟩ := hd
    have f9 : phP (tInt .i64) b.inputs (l 9) R3q := d0 rfl
    exact gstep_plain rfl rfl rfl (ph_exact (ph_loadR ty3 rfl f9) (fun _ _ h => vrep_int.1 h))
  · intro l R4q hle ha hd
    obtain ⟨d0, d1, _⟩ := hd
    have f8 : l 8 = (.int .i64 a.inputs) := d0 rfl
    have f10 : l 10 = (.int .i64 b.inputs) := d1 rfl
    exact gstep_plain rfl rfl rfl (ph_val (val_neq f8 f10))
  · intro l R5q hle ha hd
    obtain ⟨d0, _⟩ := hd
    have f11 : l 11 = (.bool (decide (a.inputs ≠ b.inputs))) := d0 rfl
    exact gstep_plain rfl rfl rfl (ph_val (val_move f11))
  · intro l R6q hle ha hd
    obtain ⟨d0, _⟩ := hd
    have a2 : l 2 = v1 := ha 2 rfl
    exact gstep_guard (Gj := true) (Bj := decide (a.inputs ≠ b.inputs)) rfl rfl rfl (gtrue (d0 rfl)) rfl (fun hG hB => ph_fieldR fd27_1 pt_Mach1 a2 ((h2.mono le8).mono hle))
  · intro l R7q hle ha hd
    obtain ⟨d0, d1, _⟩ := hd
    have f13g : phG (true && ((decide (a.inputs ≠ b.inputs)) == false)) (phP (tInt .i64) a.outputs) (l 13) R7q := d0 rfl
    exact gstep_guard (Gj := true) (Bj := decide (a.inputs ≠ b.inputs)) rfl rfl rfl (gtrue (d1 rfl)) rfl (fun hG hB => ph_exact (ph_loadR ty3 rfl (f13g.1 (gandT rfl hB))) (fun _ _ h => vrep_int.1 h))
  · intro l R8q hle ha hd
    obtain ⟨d0, _⟩ := hd
    have a3 : l 3 = v5 := ha 3 rfl
    exact gstep_guard (Gj := true) (Bj := decide (a.inputs ≠ b.inputs)) rfl rfl rfl (gtrue (d0 rfl)) rfl (fun hG hB => ph_fieldR fd27_1 pt_Mach1 a3 (h6.mono hle))
  · intro l R9q hle ha hd
    obtain ⟨d0, d1, _⟩ := hd
    have f15g : phG (true && ((decide (a.inputs ≠ b.inputs)) == false)) (phP (tInt .i64) b.outputs) (l 15) R9q := d0 rfl
    exact gstep_guard (Gj := true) (Bj := decide (a.inputs ≠ b.inputs)) rfl rfl rfl (gtrue (d1 rfl)) rfl (fun hG hB => ph_exact (ph_loadR ty3 rfl (f15g.1 (gandT rfl hB))) (fun _ _ h => vrep_int.1 h))
  · intro l R10q hle ha hd
    obtain ⟨d0, d1, d2, _⟩ := hd
    have f14g : phG (true && ((decide (a.inputs ≠ b.inputs)) == false)) (phX (.int .i64 a.outputs)) (l 14) R10q := d0 rfl
    have f16g : phG (true && ((decide (a.inputs ≠ b.inputs)) == false)) (phX (.int .i64 b.outputs)) (l 16) R10q := d1 rfl
    exact gstep_guard (Gj := true) (Bj := decide (a.inputs ≠ b.inputs)) rfl rfl rfl (gtrue (d2 rfl)) rfl (fun hG hB => ph_val (val_neq (show l 14 = (.int .i64 a.outputs) from f14g.1 (gandT rfl hB)) (show l 16 = (.int .i64 b.outputs) from f16g.1 (gandT rfl hB))))
  · intro l R11q hle ha hd
    obtain ⟨d0, d1, _⟩ := hd
    have f12 : l 12 = (.bool (decide (a.inputs ≠ b.inputs))) := d0 rfl
    have f17g : phG (true && ((decide (a.inputs ≠ b.inputs)) == false)) (phX (.bool (decide (a.outputs ≠ b.outputs)))) (l 17) R11q := d1 rfl
    exact gstep_plain rfl rfl rfl (ph_val (val_or f12 rfl (fun hb => (show l 17 = (.bool (decide (a.outputs ≠ b.outputs))) from f17g.1 (gandT rfl hb)))))
  · intro l R12q hle ha hd
    obtain ⟨d0, d1, _⟩ := hd
    have f18 : l 18 = (.bool ((decide (a.inputs ≠ b.inputs)) || (decide (a.outputs ≠ b.outputs)))) := d0 rfl
    exact gstep_plain rfl rfl rfl (ph_val (val_move f18))
  · intro l R13q hle ha hd
    obtain ⟨d0, _⟩ := hd
    have a2 : l 2 = v1 := ha 2 rfl
    exact gstep_guard (Gj := true) (Bj := (decide (a.inputs ≠ b.inputs)) || (decide (a.outputs ≠ b.outputs))) rfl rfl rfl (gtrue (d0 rfl)) rfl (fun hG hB => ph_fieldR fd27_2 pt_Mach2 a2 ((h2.mono le8).mono hle))
  · intro l R14q hle ha hd
    obtain ⟨d0, d1, _⟩ := hd
    have f20g : phG (true && (((decide (a.inputs ≠ b.inputs)) || (decide (a.outputs ≠ b.outputs))) == false)) (phP (tSl false (tSl false kEdge)) a.rows) (l 20) R14q := d0 rfl
    exact gstep_guard (Gj := true) (Bj := (decide (a.inputs ≠ b.inputs)) || (decide (a.outputs ≠ b.outputs))) rfl rfl rfl (gtrue (d1 rfl)) rfl (fun hG hB => ph_loadR ty25 rfl (f20g.1 (gandT rfl hB)))
  · intro l R15q hle ha hd
    obtain ⟨d0, d1, _⟩ := hd
    have f21g : phG (true && (((decide (a.inputs ≠ b.inputs)) || (decide (a.outputs ≠ b.outputs))) == false)) (phR (tSl false (tSl false kEdge)) a.rows) (l 21) R15q := d0 rfl
    exact gstep_guard (Gj := true) (Bj := (decide (a.inputs ≠ b.inputs)) || (decide (a.outputs ≠ b.outputs))) rfl rfl rfl (gtrue (d1 rfl)) rfl (fun hG hB => ph_val (val_lenR rfl Try.underlying25 rfl (sl_s (f21g.1 (gandT rfl hB)))))
  · intro l R16q hle ha hd
    obtain ⟨d0, _⟩ := hd
    have a3 : l 3 = v5 := ha 3 rfl
    exact gstep_guard (Gj := true) (Bj := (decide (a.inputs ≠ b.inputs)) || (decide (a.outputs ≠ b.outputs))) rfl rfl rfl (gtrue (d0 rfl)) rfl (fun hG hB => ph_fieldR fd27_2 pt_Mach2 a3 (h6.mono hle))
  · intro l R17q hle ha hd
    obtain ⟨d0, d1, _⟩ := hd
    have f23g : phG (true && (((decide (a.inputs ≠ b.inputs)) || (decide (a.outputs ≠ b.outputs))) == false)) (phP (tSl false (tSl false kEdge)) b.rows) (l 23) R17q := d0 rfl
    exact gstep_guard (Gj := true) (Bj := (decide (a.inputs ≠ b.inputs)) || (decide (a.outputs ≠ b.outputs))) rfl rfl rfl (gtrue (d1 rfl)) rfl (fun hG hB => ph_loadR ty25 rfl (f23g.1 (gandT rfl hB)))
  · intro l R18q hle ha hd
    obtain ⟨d0, d1, _⟩ := hd
    have f24g : phG (true && (((decide (a.inputs ≠ b.inputs)) || (decide (a.outputs ≠ b.outputs))) == false)) (phR (tSl false (tSl false kEdge)) b.rows) (l 24) R18q := d0 rfl
    exact gstep_guard (Gj := true) (Bj := (decide (a.inputs ≠ b.inputs)) || (decide (a.outputs ≠ b.outputs))) rfl rfl rfl (gtrue (d1 rfl)) rfl (fun hG hB => ph_val (val_lenR rfl Try.underlying25 rfl (sl_s (f24g.1 (gandT rfl hB)))))
  · intro l R19q hle ha hd
    obtain ⟨d0, d1, d2, _⟩ := hd
    have f22g : phG (true && (((decide (a.inputs ≠ b.inputs)) || (decide (a.outputs ≠ b.outputs))) == false)) (phX (.int .i64 (↑a.rows.length : Int))) (l 22) R19q := d0 rfl
    have f25g : phG (true && (((decide (a.inputs ≠ b.inputs)) || (decide (a.outputs ≠ b.outputs))) == false)) (phX (.int .i64 (↑b.rows.length : Int))) (l 25) R19q := d1 rfl
    exact gstep_guard (Gj := true) (Bj := (decide (a.inputs ≠ b.inputs)) || (decide (a.outputs ≠ b.outputs))) rfl rfl rfl (gtrue (d2 rfl)) rfl (fun hG hB => ph_val (val_neq (show l 22 = (.int .i64 (↑a.rows.length : Int)) from f22g.1 (gandT rfl hB)) (show l 25 = (.int .i64 (↑b.rows.length : Int)) from f25g.1 (gandT rfl hB))))
  · intro l R20q hle ha hd
    obtain ⟨d0, d1, _⟩ := hd
    have f19 : l 19 = (.bool ((decide (a.inputs ≠ b.inputs)) || (decide (a.outputs ≠ b.outputs)))) := d0 rfl
    have f26g : phG (true && (((decide (a.inputs ≠ b.inputs)) || (decide (a.outputs ≠ b.outputs))) == false)) (phX (.bool (decide ((↑a.rows.length : Int) ≠ (↑b.rows.length : Int))))) (l 26) R20q := d1 rfl
    exact gstep_plain rfl rfl rfl (ph_val (val_or f19 rfl (fun hb => (show l 26 = (.bool (decide ((↑a.rows.length : Int) ≠ (↑b.rows.length : Int)))) from f26g.1 (gandT rfl hb)))))
  intro v11 h12
  intro v13 h14
  intro v15 h16
  intro v17 h18
  intro v19 h20
  intro v21 h22
  intro v23 h24
  intro v25 h26
  intro v27 h28
  intro v29 h30
  intro v31 h32
  intro v33 h34
  intro v35 h36
  intro v37 h38
  intro v39 h40
  intro v41 h42
  intro v43 h44
  intro v45 h46
  intro v47 h48
  intro v49 h50
  intro v51 h52
  obtain rfl := Eq.symm h14
  obtain rfl := Eq.symm h18
  obtain rfl := Eq.symm h20
  obtain rfl := Eq.symm h22
  obtain rfl := Eq.symm h34
  obtain rfl := Eq.symm h36
  obtain rfl := Eq.symm h52
  refine wo_nil ?_
  refine wg_cond rfl (fun e53 => ?_) (fun e53 => ?_)
  · replace hd0 := sel_t e53 hd0; clear e53
    refine wg_seq ?_
    refine wg_region ?_
    refine wo_v rfl (val_assign (v := (.bool false)) rfl) ?_
    refine wo_nil ?_
    refine wg_ret ?_
    obtain rfl := Option.some.inj hd0
    refine body_end (D := []) (J := []) (rs := [.tmp 4]) (vs := [(.bool false)]) ((le4.trans le8).trans le10) rfl rfl ⟨rfl, trivial⟩ ?_
    exact ⟨rfl, rfl⟩
  · replace hd0 := sel_f e53 hd0; clear e53
    refine wg_skip ?_
    replace hd0 := bd_some hd0; obtain ⟨q55, hd1, hd0⟩ := hd0
    refine wg_meet (γ := Unit) true [5, 28, 29, 30, 31, 32, 35, 36, 37, 38, 39, 40, 41, 42, 43, 44, 45, 46, 47, 4, 6, 48, 49, 50, 51, 52, 53, 54, 55, 58, 59, 60, 61, 62, 63, 64, 65, 66, 67, 68, 69, 70, 71, 72, 73, 74, 56, 57, 33, 34] (fun g => []) (fun g => [] ++ A) (fun g R => q55 = Ex.go g ∧ True) ?_ ?_
    ·
      refine wg_seq ?_
      refine wg_region ?_
      refine wo_v rfl (val_assign (v := (.int .i64 0)) rfl) ?_
      refine wo_nil ?_
      refine wg_block ?_
      refine wg_loopS (γ := Nat × Int) true [28, 29, 30, 31, 32, 35, 36, 37, 38, 39, 40, 41, 42, 43, 44, 45, 46, 47, 4, 6, 48, 49, 50, 51, 52, 53, 54, 55, 58, 59, 60, 61, 62, 63, 64, 65, 66, 67, 68, 69, 70, 71, 72, 73, 74, 56, 57, 33, 34, 5] (fun g => [(5, (.int .i64 g.2))]) (fun g => [] ++ A) (fun g R => gauntletref04_Same_L1 N a b g.1 g.2 = some q55 ∧ True) (fun g => g.1) (N, 0) ⟨rfl, trivial⟩ ⟨[], List.Perm.refl _⟩ ⟨hd1, trivial⟩ (fun _ => rfl) ?_
      clear hd1
      rintro ⟨F58, x59⟩ j165 D166 R60 hD167 le61 ⟨hd1, _⟩
      obtain rfl := hD167 rfl
      rcases F58 with _ | F58
      · exact none_elim hd1
      replace hd1 : gauntletref04_Same_L1 N a b (F58 + 1) x59 = some q55 := hd1; rw [gauntletref04_Same_L1] at hd1
      refine wg_seq ?_
      refine wg_seq ?_
      refine wg_region ?_
      refine wo_v rfl (val_move (v := (.int .i64 x59)) rfl) ?_
      refine wo_fieldR rfl fd27_2 pt_Mach2 rfl (h2.mono ((le8.trans le10).trans le61)) fun v62 h63 => ?_
      refine wo_loadR rfl ty25 rfl h63 fun v64 h65 => ?_
      refine wo_v rfl (val_lenR rfl Try.underlying25 rfl (sl_s h65)) ?_
      refine wo_v rfl (val_lss rfl rfl) ?_
      refine wo_nil ?_
      refine wg_cond rfl (fun e66 => ?_) (fun e66 => ?_)
      · replace hd1 := sel_t e66 hd1; clear e66
        refine wg_skip ?_
        replace hd1 := bd_some hd1; obtain ⟨q68, hd2, hd1⟩ := hd1
        refine wg_meet (γ := Unit) true [35, 36, 37, 38, 39, 40, 41, 42, 43, 44, 45, 46, 47, 4, 6, 48, 49, 50, 51, 52, 53, 54, 55, 58, 59, 60, 61, 62, 63, 64, 65, 66, 67, 68, 69, 70, 71, 72, 73, 74, 56, 57] (fun g => []) (fun g => [] ++ A) (fun g R => q68 = Ex.go g ∧ True) ?_ ?_
        ·
          refine wg_block ?_
          refine wg_seq ?_
          refine wg_seq ?_
          have g71 := (gd_some hd2).1; replace hd2 := (gd_some hd2).2
          have g72 := (gd_some hd2).1; replace hd2 := (gd_some hd2).2
          refine wg_drawn 13 [] [phP (tSl false (tSl false kEdge)) a.rows, phR (tSl false (tSl false kEdge)) a.rows, phX (.int .i64 x59), phP (tSl false kEdge) (ix a.rows x59), phR (tSl false kEdge) (ix a.rows x59), phX (.int .i64 (↑(ix a.rows x59).length : Int)), phP (tSl false (tSl false kEdge)) b.rows, phR (tSl false (tSl false kEdge)) b.rows, phX (.int .i64 x59), phP (tSl false kEdge) (ix b.rows x59), phR (tSl false kEdge) (ix b.rows x59), phX (.int .i64 (↑(ix b.rows x59).length : Int)), phX (.bool (decide ((↑(ix a.rows x59).length : Int) ≠ (↑(ix b.rows x59).length : Int))))] mixed (by kernel_rfl) (monoOk_of ⟨mono_p, mono_r, mono_x, mono_p, mono_r, mono_x, mono_p, mono_r, mono_x, mono_p, mono_r, mono_x, mono_x, trivial⟩) ⟨?_, ?_, ?_, ?_, ?_, ?_, ?_, ?_, ?_, ?_, ?_, ?_, ?_, trivial⟩ fun R73 le74 => ?_
          · intro l R0q hle ha hd
            have a2 : l 2 = v1 := ha 2 rfl
            exact gstep_plain rfl rfl rfl (ph_fieldR fd27_2 pt_Mach2 a2 ((h2.mono ((le8.trans le10).trans le61)).mono hle))
          · intro l R1q hle ha hd
            obtain ⟨d0, _⟩ := hd
            have f35 : phP (tSl false (tSl false kEdge)) a.rows (l 35) R1q := d0 rfl
            exact gstep_plain rfl rfl rfl (ph_loadR ty25 rfl f35)
          · intro l R2q hle ha hd
            have a5 : l 5 = (.int .i64 x59) := ha 5 rfl
            exact gstep_plain rfl rfl rfl (ph_val (val_move a5))
          · intro l R3q hle ha hd
            obtain ⟨d0, d1, _⟩ := hd
            have f36 : phR (tSl false (tSl false kEdge)) a.rows (l 36) R3q := d0 rfl
            have f37 : l 37 = (.int .i64 x59) := d1 rfl
            exact gstep_plain rfl rfl rfl (ph_indexR (i := x59.toNat) sl25 rfl (sl_s f36) (idx_nonneg f37 g71.1) (okI_lt g71))
          · intro l R4q hle ha hd
            obtain ⟨d0, _⟩ := hd
            have f38 : phP (tSl false kEdge) (ix a.rows x59) (l 38) R4q := d0 rfl
            exact gstep_plain rfl rfl rfl (ph_loadR ty41 rfl f38)
          · intro l R5q hle ha hd
            obtain ⟨d0, _⟩ := hd
            have f39 : phR (tSl false kEdge) (ix a.rows x59) (l 39) R5q := d0 rfl
            exact gstep_plain rfl rfl rfl (ph_val (val_lenR rfl Try.underlying41 rfl (sl_s f39)))
          · intro l R6q hle ha hd
            have a3 : l 3 = v5 := ha 3 rfl
            exact gstep_plain rfl rfl rfl (ph_fieldR fd27_2 pt_Mach2 a3 ((h6.mono (le10.trans le61)).mono hle))
          · intro l R7q hle ha hd
            obtain ⟨d0, _⟩ := hd
            have f41 : phP (tSl false (tSl false kEdge)) b.rows (l 41) R7q := d0 rfl
            exact gstep_plain rfl rfl rfl (ph_loadR ty25 rfl f41)
          · intro l R8q hle ha hd
            have a5 : l 5 = (.int .i64 x59) := ha 5 rfl
            exact gstep_plain rfl rfl rfl (ph_val (val_move a5))
          · intro l R9q hle ha hd
            obtain ⟨d0, d1, _⟩ := hd
            have f42 : phR (tSl false (tSl false kEdge)) b.rows (l 42) R9q := d0 rfl
            have f43 : l 43 = (.int .i64 x59) := d1 rfl
            exact gstep_plain rfl rfl rfl (ph_indexR (i := x59.toNat) sl25 rfl (sl_s f42) (idx_nonneg f43 g72.1) (okI_lt g72))
          · intro l R10q hle ha hd
            obtain ⟨d0, _⟩ := hd
            have f44 : phP (tSl false kEdge) (ix b.rows x59) (l 44) R10q := d0 rfl
            exact gstep_plain rfl rfl rfl (ph_loadR ty41 rfl f44)
          · intro l R11q hle ha hd
            obtain ⟨d0, _⟩ := hd
            have f45 : phR (tSl false kEdge) (ix b.rows x59) (l 45) R11q := d0 rfl
            exact gstep_plain rfl rfl rfl (ph_val (val_lenR rfl Try.underlying41 rfl (sl_s f45)))
          · intro l R12q hle ha hd
            obtain ⟨d0, d1, _⟩ := hd
            have f40 : l 40 = (.int .i64 (↑(ix a.rows x59).length : Int)) := d0 rfl
            have f46 : l 46 = (.int .i64 (↑(ix b.rows x59).length : Int)) := d1 rfl
            exact gstep_plain rfl rfl rfl (ph_val (val_neq f40 f46))
          intro v75 h76
          intro v77 h78
          intro v79 h80
          intro v81 h82
          intro v83 h84
          intro v85 h86
          intro v87 h88
          intro v89 h90
          intro v91 h92
          intro v93 h94
          intro v95 h96
          intro v97 h98
          intro v99 h100
          obtain rfl := Eq.symm h80
          obtain rfl := Eq.symm h86
          obtain rfl := Eq.symm h92
          obtain rfl := Eq.symm h98
          obtain rfl := Eq.symm h100
          refine wo_nil ?_
          refine wg_cond rfl (fun e101 => ?_) (fun e101 => ?_)
          · replace hd2 := sel_t e101 hd2; clear e101
            refine wg_seq ?_
            refine wg_region ?_
            refine wo_v rfl (val_assign (v := (.bool false)) rfl) ?_
            refine wo_nil ?_
            refine wg_ret ?_
            replace hd1 := on_rt hd2 hd1
            replace hd0 := on_rt hd1 hd0
            obtain rfl := Option.some.inj hd0
            refine body_end (D := []) (J := []) (rs := [.tmp 4]) (vs := [(.bool false)]) ((((le4.trans le8).trans le10).trans le61).trans le74) rfl rfl ⟨rfl, trivial⟩ ?_
            exact ⟨rfl, rfl⟩
          · replace hd2 := sel_f e101 hd2; clear e101
            refine wg_skip ?_
            refine wg_seq ?_
            refine wg_region ?_
            refine wo_v rfl (val_assign (v := (.int .i64 0)) rfl) ?_
            refine wo_nil ?_
            refine wg_block ?_
            refine wg_loopS (γ := Nat × Int) true [48, 49, 50, 51, 52, 53, 54, 55, 58, 59, 60, 61, 62, 63, 64, 65, 66, 67, 68, 69, 70, 71, 72, 73, 74, 4, 56, 57, 6] (fun g => [(6, (.int .i64 g.2))]) (fun g => [] ++ A) (fun g R => gauntletref04_Same_L2 N a b x59 g.1 g.2 = some q68 ∧ True) (fun g => g.1) (N, 0) ⟨rfl, trivial⟩ ⟨[], List.Perm.refl _⟩ ⟨hd2, trivial⟩ (fun _ => rfl) ?_
            clear hd2
            rintro ⟨F102, x103⟩ j158 D159 R104 hD160 le105 ⟨hd2, _⟩
            obtain rfl := hD160 rfl
            rcases F102 with _ | F102
            · exact none_elim hd2
            replace hd2 : gauntletref04_Same_L2 N a b x59 (F102 + 1) x103 = some q68 := hd2; rw [gauntletref04_Same_L2] at hd2
            refine wg_seq ?_
            refine wg_seq ?_
            refine wg_region ?_
            refine wo_v rfl (val_move (v := (.int .i64 x103)) rfl) ?_
            refine wo_fieldR rfl fd27_2 pt_Mach2 rfl (h2.mono ((((le8.trans le10).trans le61).trans le74).trans le105)) fun v106 h107 => ?_
            refine wo_loadR rfl ty25 rfl h107 fun v108 h109 => ?_
            refine wo_v rfl (val_move (v := (.int .i64 x59)) rfl) ?_
            have g110 := (gd_some hd2).1; replace hd2 := (gd_some hd2).2
            refine wo_indexR (i := x59.toNat) rfl sl25 rfl (sl_s h109) (idx_nonneg rfl g110.1) (okI_lt g110) fun v111 h112 => ?_
            refine wo_loadR rfl ty41 rfl h112 fun v113 h114 => ?_
            refine wo_v rfl (val_lenR rfl Try.underlying41 rfl (sl_s h114)) ?_
            refine wo_v rfl (val_lss rfl rfl) ?_
            refine wo_nil ?_
            refine wg_cond rfl (fun e115 => ?_) (fun e115 => ?_)
            · replace hd2 := sel_t e115 hd2; clear e115
              refine wg_skip ?_
              refine wg_seq ?_
              refine wg_block ?_
              refine wg_seq ?_
              have g116 := (gd_some hd2).1; replace hd2 := (gd_some hd2).2
              have g117 := (gd_some hd2).1; replace hd2 := (gd_some hd2).2
              have g118 := (gd_some hd2).1; replace hd2 := (gd_some hd2).2
              have g119 := (gd_some hd2).1; replace hd2 := (gd_some hd2).2
              refine wg_drawn 17 [] [phP (tSl false (tSl false kEdge)) a.rows, phR (tSl false (tSl false kEdge)) a.rows, phX (.int .i64 x59), phP (tSl false kEdge) (ix a.rows x59), phR (tSl false kEdge) (ix a.rows x59), phX (.int .i64 x103), phP kEdge (ix (ix a.rows x59) x103), phX (enc_Edge (ix (ix a.rows x59) x103)), phP (tSl false (tSl false kEdge)) b.rows, phR (tSl false (tSl false kEdge)) b.rows, phX (.int .i64 x59), phP (tSl false kEdge) (ix b.rows x59), phR (tSl false kEdge) (ix b.rows x59), phX (.int .i64 x103), phP kEdge (ix (ix b.rows x59) x103), phX (enc_Edge (ix (ix b.rows x59) x103)), phX (.bool (decide (¬ (((ix (ix a.rows x59) x103).to) = ((ix (ix b.rows x59) x103).to) ∧ ((ix (ix a.rows x59) x103).out) = ((ix (ix b.rows x59) x103).out)))))] mixed (by kernel_rfl) (monoOk_of ⟨mono_p, mono_r, mono_x, mono_p, mono_r, mono_x, mono_p, mono_x, mono_p, mono_r, mono_x, mono_p, mono_r, mono_x, mono_p, mono_x, mono_x, trivial⟩) ⟨?_, ?_, ?_, ?_, ?_, ?_, ?_, ?_, ?_, ?_, ?_, ?_, ?_, ?_, ?_, ?_, ?_, trivial⟩ fun R120 le121 => ?_
              · intro l R0q hle ha hd
                have a2 : l 2 = v1 := ha 2 rfl
                exact gstep_plain rfl rfl rfl (ph_fieldR fd27_2 pt_Mach2 a2 ((h2.mono ((((le8.trans le10).trans le61).trans le74).trans le105)).mono hle))
              · intro l R1q hle ha hd
                obtain ⟨d0, _⟩ := hd
                have f58 : phP (tSl false (tSl false kEdge)) a.rows (l 58) R1q := d0 rfl
                exact gstep_plain rfl rfl rfl (ph_loadR ty25 rfl f58)
              · intro l R2q hle ha hd
                have a5 : l 5 = (.int .i64 x59) := ha 5 rfl
                exact gstep_plain rfl rfl rfl (ph_val (val_move a5))
              · intro l R3q hle ha hd
                obtain ⟨d0, d1, _⟩ := hd
                have f59 : phR (tSl false (tSl false kEdge)) a.rows (l 59) R3q := d0 rfl
                have f60 : l 60 = (.int .i64 x59) := d1 rfl
                exact gstep_plain rfl rfl rfl (ph_indexR (i := x59.toNat) sl25 rfl (sl_s f59) (idx_nonneg f60 g116.1) (okI_lt g116))
              · intro l R4q hle ha hd
                obtain ⟨d0, _⟩ := hd
                have f61 : phP (tSl false kEdge) (ix a.rows x59) (l 61) R4q := d0 rfl
                exact gstep_plain rfl rfl rfl (ph_loadR ty41 rfl f61)
              · intro l R5q hle ha hd
                have a6 : l 6 = (.int .i64 x103) := ha 6 rfl
                exact gstep_plain rfl rfl rfl (ph_val (val_move a6))
              · intro l R6q hle ha hd
                obtain ⟨d0, d1, _⟩ := hd
                have f62 : phR (tSl false kEdge) (ix a.rows x59) (l 62) R6q := d0 rfl
                have f63 : l 63 = (.int .i64 x103) := d1 rfl
                exact gstep_plain rfl rfl rfl (ph_indexR (i := x103.toNat) sl41 rfl (sl_s f62) (idx_nonneg f63 g117.1) (okI_lt g117))
              · intro l R7q hle ha hd
                obtain ⟨d0, _⟩ := hd
                have f64 : phP kEdge (ix (ix a.rows x59) x103) (l 64) R7q := d0 rfl
                exact gstep_plain rfl rfl rfl (ph_exact (ph_loadR ty40 rfl f64) (fun _ _ h => vrep_Edge.1 h))
              · intro l R8q hle ha hd
                have a3 : l 3 = v5 := ha 3 rfl
                exact gstep_plain rfl rfl rfl (ph_fieldR fd27_2 pt_Mach2 a3 ((h6.mono (((le10.trans le61).trans le74).trans le105)).mono hle))
              · intro l R9q hle ha hd
                obtain ⟨d0, _⟩ := hd
                have f66 : phP (tSl false (tSl false kEdge)) b.rows (l 66) R9q := d0 rfl
                exact gstep_plain rfl rfl rfl (ph_loadR ty25 rfl f66)
              · intro l R10q hle ha hd
                have a5 : l 5 = (.int .i64 x59) := ha 5 rfl
                exact gstep_plain rfl rfl rfl (ph_val (val_move a5))
              · intro l R11q hle ha hd
                obtain ⟨d0, d1, _⟩ := hd
                have f67 : phR (tSl false (tSl false kEdge)) b.rows (l 67) R11q := d0 rfl
                have f68 : l 68 = (.int .i64 x59) := d1 rfl
                exact gstep_plain rfl rfl rfl (ph_indexR (i := x59.toNat) sl25 rfl (sl_s f67) (idx_nonneg f68 g118.1) (okI_lt g118))
              · intro l R12q hle ha hd
                obtain ⟨d0, _⟩ := hd
                have f69 : phP (tSl false kEdge) (ix b.rows x59) (l 69) R12q := d0 rfl
                exact gstep_plain rfl rfl rfl (ph_loadR ty41 rfl f69)
              · intro l R13q hle ha hd
                have a6 : l 6 = (.int .i64 x103) := ha 6 rfl
                exact gstep_plain rfl rfl rfl (ph_val (val_move a6))
              · intro l R14q hle ha hd
                obtain ⟨d0, d1, _⟩ := hd
                have f70 : phR (tSl false kEdge) (ix b.rows x59) (l 70) R14q := d0 rfl
                have f71 : l 71 = (.int .i64 x103) := d1 rfl
                exact gstep_plain rfl rfl rfl (ph_indexR (i := x103.toNat) sl41 rfl (sl_s f70) (idx_nonneg f71 g119.1) (okI_lt g119))
              · intro l R15q hle ha hd
                obtain ⟨d0, _⟩ := hd
                have f72 : phP kEdge (ix (ix b.rows x59) x103) (l 72) R15q := d0 rfl
                exact gstep_plain rfl rfl rfl (ph_exact (ph_loadR ty40 rfl f72) (fun _ _ h => vrep_Edge.1 h))
              · intro l R16q hle ha hd
                obtain ⟨d0, d1, _⟩ := hd
                have f65 : l 65 = (enc_Edge (ix (ix a.rows x59) x103)) := d0 rfl
                have f73 : l 73 = (enc_Edge (ix (ix b.rows x59) x103)) := d1 rfl
                exact gstep_plain rfl rfl rfl (ph_val (val_neq2 eq40 f65 f73))
              intro v122 h123
              intro v124 h125
              intro v126 h127
              intro v128 h129
              intro v130 h131
              intro v132 h133
              intro v134 h135
              intro v136 h137
              intro v138 h139
              intro v140 h141
              intro v142 h143
              intro v144 h145
              intro v146 h147
              intro v148 h149
              intro v150 h151
              intro v152 h153
              intro v154 h155
              obtain rfl := Eq.symm h127
              obtain rfl := Eq.symm h133
              obtain rfl := Eq.symm h137
              obtain rfl := Eq.symm h143
              obtain rfl := Eq.symm h149
              obtain rfl := Eq.symm h153
              obtain rfl := Eq.symm h155
              refine wo_nil ?_
              refine wg_cond rfl (fun e156 => ?_) (fun e156 => ?_)
              · replace hd2 := sel_t e156 hd2; clear e156
                refine wg_seq ?_
                refine wg_region ?_
                refine wo_v rfl (val_assign (v := (.bool false)) rfl) ?_
                refine wo_nil ?_
                refine wg_ret ?_
                replace hd1 := on_rt hd2 hd1
                replace hd0 := on_rt hd1 hd0
                obtain rfl := Option.some.inj hd0
                refine body_end (D := []) (J := []) (rs := [.tmp 4]) (vs := [(.bool false)]) ((((((le4.trans le8).trans le10).trans le61).trans le74).trans le105).trans le121) rfl rfl ⟨rfl, trivial⟩ ?_
                exact ⟨rfl, rfl⟩
              · replace hd2 := sel_f e156 hd2; clear e156
                refine wg_skip ?_
                refine wg_region ?_
                refine wo_v rfl (val_move (v := (.int .i64 x103)) rfl) ?_
                have g157 := (gd_some hd2).1; replace hd2 := (gd_some hd2).2
                refine wo_v rfl (val_add rfl rfl g157) ?_
                refine wo_v rfl (val_assign (v := (.int .i64 (x103 + 1))) rfl) ?_
                refine wo_nil ?_
                exact ⟨(fun _ => rfl), le121, (by repeat (first | exact off_self | refine off_upd rfl ?_ | refine off_setl rfl ?_ | refine off_mask_sub rfl ?_)), (F102, x103 + 1), Nat.lt_succ_self _, ⟨rfl, trivial⟩, ⟨[], List.Perm.refl _⟩, hd2, trivial⟩
            · replace hd2 := sel_f e115 hd2; clear e115
              refine wg_exit ?_
              exact ⟨(fun _ => rfl), (le74.trans le105), (by repeat (first | exact off_self | refine off_upd rfl ?_ | refine off_setl rfl ?_ | refine off_mask_sub rfl ?_)), (), trivial, ⟨[], List.Perm.refl _⟩, (Option.some.inj hd2).symm, trivial⟩
        ·
          rintro o67 j161 D162 R69 hD163 le70 ⟨rfl, _⟩
          obtain rfl := hD163 rfl
          replace hd1 := on_go hd1
          refine wg_region ?_
          refine wo_v rfl (val_move (v := (.int .i64 x59)) rfl) ?_
          have g164 := (gd_some hd1).1; replace hd1 := (gd_some hd1).2
          refine wo_v rfl (val_add rfl rfl g164) ?_
          refine wo_v rfl (val_assign (v := (.int .i64 (x59 + 1))) rfl) ?_
          refine wo_nil ?_
          exact ⟨(fun _ => rfl), le70, (by repeat (first | exact off_self | refine off_upd rfl ?_ | refine off_setl rfl ?_ | refine off_mask_sub rfl ?_)), (F58, x59 + 1), Nat.lt_succ_self _, ⟨rfl, trivial⟩, ⟨[], List.Perm.refl _⟩, hd1, trivial⟩
      · replace hd1 := sel_f e66 hd1; clear e66
        refine wg_exit ?_
        exact ⟨(fun _ => rfl), le61, (by repeat (first | exact off_self | refine off_upd rfl ?_ | refine off_setl rfl ?_ | refine off_mask_sub rfl ?_)), (), trivial, ⟨[], List.Perm.refl _⟩, (Option.some.inj hd1).symm, trivial⟩
    ·
      rintro o54 j168 D169 R56 hD170 le57 ⟨rfl, _⟩
      obtain rfl := hD170 rfl
      replace hd0 := on_go hd0
      refine wg_seq ?_
      refine wg_region ?_
      refine wo_v rfl (val_assign (v := (.bool true)) rfl) ?_
      refine wo_nil ?_
      refine wg_ret ?_
      obtain rfl := Option.some.inj hd0
      refine body_end (D := []) (J := []) (rs := [.tmp 4]) (vs := [(.bool true)]) (((le4.trans le8).trans le10).trans le57) rfl rfl ⟨rfl, trivial⟩ ?_
      exact ⟨rfl, rfl⟩
end GV
end Go.Proofs.Ytohjnbajgbdhhaa
