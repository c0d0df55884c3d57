/- The walks of the functions; printed. -/
import Derived.Test.YtohjnbajgbdhhaaShWc
import Derived.Test.YtohjnbajgbdhhaaRows
namespace Go.Proofs.Ytohjnbajgbdhhaa
namespace GV
open Go.IntWalk
set_option linter.unusedVariables false
set_option linter.unusedSimpArgs false
set_option maxRecDepth 100000
set_option maxHeartbeats 2000000
theorem ty48 {b0 : Bool} : TyOk Try.prog 48 (kWDat b0) := by
  obtain ⟨i, hi, hs⟩ : ∃ i, Try.prog.info? 48 = some i ∧ i.size = 1 := info_size (by kernel_rfl)
  exact tyOk_of Try.underlying48 hi rfl hs
theorem fd48_0 : FieldOk Try.prog 48 0 0 := by
  obtain ⟨i, hi, hs⟩ : ∃ i, Try.prog.info? 46 = some i ∧ i.size = 1 := info_size (by kernel_rfl)
  exact fieldOk_of Try.underlying48 rfl rfl hi (by rw [hs]; rfl)
theorem ty46 {b0 : Bool} : TyOk Try.prog 46 (tSl b0 (tInt .u8)) := by
  obtain ⟨i, hi, hs⟩ : ∃ i, Try.prog.info? 46 = some i ∧ i.size = 1 := info_size (by kernel_rfl)
  exact tyOk_of Try.underlying46 hi rfl hs
theorem sl46 : SlOk Try.prog 46 5 (tInt .u8) := ⟨Try.underlying46, ty5⟩
theorem c_gauntletlaw01_W_Of {N : Nat} {R : RH} {x : WDat} {v_x : Value} (h_x : VRep (kWDat false) R v_x x) {inputs : Int} {r : (List Int)} (hd0 : gauntletlaw01_W_Of N x inputs = some r) : CallP Try.prog 20 #[v_x, (.int .i64 inputs)] R (fun v R' => VRep (tSl false (tInt .i64)) R' v r) := by
  refine callP_of_wg (args := [v_x, (.int .i64 inputs)]) Try.func20 rfl rfl fun A => ?_
  rw [gauntletlaw01_W_Of] at hd0
  refine wg_seq ?_
  refine wg_region ?_
  refine wo_boxR (T := (kWDat false)) rfl rfl h_x fun v1 R3 le4 h2 => ?_
  refine wo_v rfl (val_assign (v := (.slice none 0 0)) rfl) ?_
  refine wo_nil ?_
  refine wg_seq ?_
  refine wg_region ?_
  refine wo_v rfl (val_assign (v := (.slice none 0 0)) rfl) ?_
  refine wo_nil ?_
  replace hd0 := bd_some hd0; obtain ⟨o5, hd1, hd0⟩ := hd0
  refine wg_meet (γ := (List Int) × Value × Frag) true [6, 7, 8, 9, 10, 11, 12, 13, 14, 15, 18, 19, 20, 21, 22, 23, 24, 25, 26, 27, 28, 5, 16, 17] (fun g => [(5, g.2.1)]) (fun g => [g.2.2] ++ A) (fun g R => o5 = g.1 ∧ ORep (tInt .i64) R g.2.2 g.2.1 g.1 ∧ True) ?_ ?_
  ·
    refine wg_seq ?_
    refine wg_region ?_
    refine wo_v rfl (val_assign (v := (.int .i64 0)) rfl) ?_
    refine wo_nil ?_
    refine wg_block ?_
    refine wg_emp ?_
    refine wg_loopS (γ := Nat × (List Int) × Int × Value × Frag) true [7, 8, 9, 10, 11, 12, 13, 14, 15, 18, 19, 20, 21, 22, 23, 24, 25, 26, 27, 28, 5, 16, 17, 6] (fun g => [(5, g.2.2.2.1), (6, (.int .i64 g.2.2.1))]) (fun g => [g.2.2.2.2] ++ A) (fun g R => gauntletlaw01_W_Of_L1 N x inputs g.1 g.2.1 g.2.2.1 = some o5 ∧ ORep (tInt .i64) R g.2.2.2.2 g.2.2.2.1 g.2.1 ∧ True) (fun g => g.1) (N, ([] : List Int), 0, (.slice none 0 0), emp) ⟨rfl, rfl, trivial⟩ ⟨[], List.Perm.refl _⟩ ⟨hd1, (orep_emp (T := (tInt .i64))), trivial⟩ (fun _ => rfl) ?_
    clear hd1
    rintro ⟨F13, x14, x15, v18, f19⟩ j68 D69 R16 hD70 le17 ⟨hd1, h20, _⟩
    obtain rfl := hD70 rfl
    rcases F13 with _ | F13
    · exact none_elim hd1
    replace hd1 : gauntletlaw01_W_Of_L1 N x inputs (F13 + 1) x14 x15 = some o5 := hd1; rw [gauntletlaw01_W_Of_L1] at hd1
    refine wg_seq ?_
    refine wg_seq ?_
    refine wg_guarded 9 [] [phX (.int .i64 x15), phP (tSl false (tInt .u8)) x.syms, phR (tSl false (tInt .u8)) x.syms, phX (.int .i64 (↑x.syms.length : Int)), phX (.bool (decide (x15 < (↑x.syms.length : Int)))), phX (.bool (decide (x15 < (↑x.syms.length : Int)))), phG (true && ((decide (x15 < (↑x.syms.length : Int))) == true)) (phX (.int .i64 x15)), phG (true && ((decide (x15 < (↑x.syms.length : Int))) == true)) (phX (.bool (decide (x15 < 12)))), phX (.bool ((decide (x15 < (↑x.syms.length : Int))) && (decide (x15 < 12))))] (by kernel_rfl) (by kernel_rfl) (monoOk_of ⟨mono_x, mono_p, mono_r, mono_x, mono_x, mono_x, (mono_g mono_x), (mono_g mono_x), mono_x, trivial⟩) ⟨?_, ?_, ?_, ?_, ?_, ?_, ?_, ?_, ?_, trivial⟩ fun R22 le23 => ?_
    · intro l R0q hle ha hd
      have a6 : l 6 = (.int .i64 x15) := ha 6 rfl
      exact gstep_plain rfl rfl rfl (ph_val (val_move a6))
    · intro l R1q hle ha hd
      have a2 : l 2 = v1 := ha 2 rfl
      exact gstep_plain rfl rfl rfl (ph_fieldR fd48_0 pt_WDat0 a2 ((h2.mono le17).mono hle))
    · intro l R2q hle ha hd
      obtain ⟨d0, _⟩ := hd
      have f8 : phP (tSl false (tInt .u8)) x.syms (l 8) R2q := d0 rfl
      exact gstep_plain rfl rfl rfl (ph_loadR ty46 rfl f8)
    · intro l R3q hle ha hd
      obtain ⟨d0, _⟩ := hd
      have f9 : phR (tSl false (tInt .u8)) x.syms (l 9) R3q := d0 rfl
      exact gstep_plain rfl rfl rfl (ph_val (val_lenR rfl Try.underlying46 rfl (sl_s f9)))
    · intro l R4q hle ha hd
      obtain ⟨d0, d1, _⟩ := hd
      have f7 : l 7 = (.int .i64 x15) := d0 rfl
      have f10 : l 10 = (.int .i64 (↑x.syms.length : Int)) := d1 rfl
      exact gstep_plain rfl rfl rfl (ph_val (val_lss f7 f10))
    · intro l R5q hle ha hd
      obtain ⟨d0, _⟩ := hd
      have f11 : l 11 = (.bool (decide (x15 < (↑x.syms.length : Int)))) := d0 rfl
      exact gstep_plain rfl rfl rfl (ph_val (val_move f11))
    · intro l R6q hle ha hd
      obtain ⟨d0, _⟩ := hd
      have a6 : l 6 = (.int .i64 x15) := ha 6 rfl
      exact gstep_guard (Gj := true) (Bj := decide (x15 < (↑x.syms.length : Int))) rfl rfl rfl (gtrue (d0 rfl)) rfl (fun hG hB => ph_val (val_move a6))
    · intro l R7q hle ha hd
      obtain ⟨d0, d1, _⟩ := hd
      have f13g : phG (true && ((decide (x15 < (↑x.syms.length : Int))) == true)) (phX (.int .i64 x15)) (l 13) R7q := d0 rfl
      exact gstep_guard (Gj := true) (Bj := decide (x15 < (↑x.syms.length : Int))) rfl rfl rfl (gtrue (d1 rfl)) rfl (fun hG hB => ph_val (val_lss (show l 13 = (.int .i64 x15) from f13g.1 (gandT rfl hB)) rfl))
    · intro l R8q hle ha hd
      obtain ⟨d0, d1, _⟩ := hd
      have f12 : l 12 = (.bool (decide (x15 < (↑x.syms.length : Int)))) := d0 rfl
      have f14g : phG (true && ((decide (x15 < (↑x.syms.length : Int))) == true)) (phX (.bool (decide (x15 < 12)))) (l 14) R8q := d1 rfl
      exact gstep_plain rfl rfl rfl (ph_val (val_and f12 (fun hb => (show l 14 = (.bool (decide (x15 < 12))) from f14g.1 (gandT rfl hb))) rfl))
    intro v24 h25
    intro v26 h27
    intro v28 h29
    intro v30 h31
    intro v32 h33
    intro v34 h35
    intro v36 h37
    intro v38 h39
    intro v40 h41
    obtain rfl := Eq.symm h25
    obtain rfl := Eq.symm h31
    obtain rfl := Eq.symm h33
    obtain rfl := Eq.symm h35
    obtain rfl := Eq.symm h41
    refine wo_nil ?_
    refine wg_cond rfl (fun e42 => ?_) (fun e42 => ?_)
    · replace hd1 := sel_t e42 hd1; clear e42
      refine wg_skip ?_
      refine wg_seq ?_
      refine wg_block ?_
      refine wg_region ?_
      refine wo_v rfl (val_move (v := v18) rfl) ?_
      refine wo_fieldR rfl fd48_0 pt_WDat0 rfl (h2.mono (le17.trans le23)) fun v43 h44 => ?_
      refine wo_loadR rfl ty46 rfl h44 fun v45 h46 => ?_
      refine wo_v rfl (val_move (v := (.int .i64 x15)) rfl) ?_
      have g47 := (gd_some hd1).1; replace hd1 := (gd_some hd1).2
      refine wo_indexR (i := x15.toNat) rfl sl46 rfl (sl_s h46) (idx_nonneg rfl g47.1) (okI_lt g47) fun v48 h49 => ?_
      refine wo_loadR rfl ty5 rfl h49 fun v50 h51 => ?_
      obtain rfl := vrep_int.1 h51
      have g52 := (gd_some hd1).1; replace hd1 := (gd_some hd1).2
      refine wo_v rfl (val_conv64 Try.underlying5 Try.underlying3 rfl g52) ?_
      refine wo_v rfl (val_move (v := (.int .i64 inputs)) rfl) ?_
      have g53 := (gd_some hd1).1; replace hd1 := (gd_some hd1).2
      refine wo_v rfl (val_rem0 rfl rfl g53) ?_
      refine wo_lit (T := (tInt .i64)) (X := ([(ix x.syms x15) % inputs] : List Int)) (ps := [(0, (.int .i64 ((ix x.syms x15) % inputs)))]) (css := [[(.int .i64 ((ix x.syms x15) % inputs))]]) rfl Try.underlying49 zo3 rfl rfl (lit_reps ⟨rfl, trivial⟩) rfl rfl (by decide) fun v54 f55 cap56 h57 => ?_
      refine wo_freeze (i := 0) rfl h57 fun R59 le60 h61 => ?_
      have h62 : VRep (tSl true (tInt .i64)) R59 v54 ([(ix x.syms x15) % inputs] : List Int) := (sl_t h61 cap56)
      have g63 := (gd_some hd1).1; replace hd1 := (gd_some hd1).2
      refine wo_append (i := 0) (X := x14) (Y := ([(ix x.syms x15) % inputs] : List Int)) rfl Try.underlying49 zo3 rfl rfl rfl (h20.mono (le23.trans le60)) (sl_s (Sub.v (B := (tSl false (tInt .i64))) (sub_sl Sub.refl (fun _ => rfl)) h62)) g63.1 g63.2 fun v64 f65 h66 => ?_
      refine wo_v rfl (val_assign (v := v64) rfl) ?_
      refine wo_nil ?_
      refine wg_region ?_
      refine wo_v rfl (val_move (v := (.int .i64 x15)) rfl) ?_
      have g67 := (gd_some hd1).1; replace hd1 := (gd_some hd1).2
      refine wo_v rfl (val_add rfl rfl g67) ?_
      refine wo_v rfl (val_assign (v := (.int .i64 (x15 + 1))) rfl) ?_
      refine wo_nil ?_
      exact ⟨(fun _ => rfl), (le23.trans le60), (by repeat (first | exact off_self | refine off_upd rfl ?_ | refine off_setl rfl ?_ | refine off_mask_sub rfl ?_)), (F13, (x14 ++ ([(ix x.syms x15) % inputs] : List Int)), x15 + 1, v64, f65), Nat.lt_succ_self _, ⟨rfl, rfl, trivial⟩, ⟨[], List.Perm.refl _⟩, hd1, h66, trivial⟩
    · replace hd1 := sel_f e42 hd1; clear e42
      refine wg_exit ?_
      exact ⟨(fun _ => rfl), (le17.trans le23), (by repeat (first | exact off_self | refine off_upd rfl ?_ | refine off_setl rfl ?_ | refine off_mask_sub rfl ?_)), (x14, v18, f19), ⟨rfl, trivial⟩, ⟨[], List.Perm.refl _⟩, (Option.some.inj hd1).symm, (h20.mono le23), trivial⟩
  ·
    rintro ⟨o5, v8, f9⟩ j71 D72 R6 hD73 le7 ⟨rfl, h10, _⟩
    obtain rfl := hD73 rfl
    refine wg_seq ?_
    refine wg_region ?_
    refine wo_v rfl (val_move (v := v8) rfl) ?_
    refine wo_v rfl (val_assign (v := v8) rfl) ?_
    refine wo_nil ?_
    refine wg_freeze (i := 0) rfl h10 fun R74 le75 h76 => ?_
    have h77 : VRep (tSl false (tInt .i64)) R74 v8 o5 := (sl_f h76)
    refine wg_ret ?_
    obtain rfl := Option.some.inj hd0
    refine body_end (D := []) (J := []) (rs := [.tmp 4]) (vs := [v8]) ((le4.trans le7).trans le75) rfl rfl ⟨rfl, trivial⟩ ?_
    exact ⟨rfl, h77⟩
theorem en20 : Enters Try.prog 20 := enters_of Try.func20 rfl (by kernel_rfl)
theorem c_gauntletref04_Next {N : Nat} {R : RH} {m : Mach} {v_m : Value} (h_m : VRep (kMach false false) R v_m m) {s : Int} {i : Int} {r : Edge} (hd0 : gauntletref04_Next N m s i = some r) : CallP Try.prog 45 #[v_m, (.int .i64 s), (.int .i64 i)] R (fun v R' => v = (enc_Edge r)) := by
  refine callP_of_wg (args := [v_m, (.int .i64 s), (.int .i64 i)]) Try.func45 rfl rfl fun A => ?_
  rw [gauntletref04_Next] at hd0
  refine wg_seq ?_
  refine wg_region ?_
  refine wo_boxR (T := (kMach false false)) rfl rfl h_m fun v1 R3 le4 h2 => ?_
  refine wo_alloc rfl za40 fun b5 => ?_
  refine wo_nil ?_
  refine wg_seq ?_
  refine wg_seq ?_
  refine wg_region ?_
  refine wo_v rfl (val_move (v := (.int .i64 s)) rfl) ?_
  refine wo_v rfl (val_lss rfl rfl) ?_
  refine wo_nil ?_
  refine wg_cond rfl (fun e7 => ?_) (fun e7 => ?_)
  · replace hd0 := sel_t e7 hd0; clear e7
    refine wg_seq ?_
    refine wg_region ?_
    refine wo_v rfl (val_buildL (ps := [(0, (.int .i64 (-1))), (1, (.int .i64 (-1)))]) (v := (.agg #[(.int .i64 (-1)), (.int .i64 (-1))])) rfl (fun w => by kernel_rfl)) ?_
    refine wo_store (i := 0) (vs := [(.int .i64 (-1)), (.int .i64 (-1))]) sz40 rfl rfl rfl rfl rfl rfl (one_cons rfl (one_cons rfl one_nil)) ?_
    refine wo_nil ?_
    refine wg_ret ?_
    obtain rfl := Option.some.inj hd0
    refine body_end (D := []) (J := [box b5 [(.int .i64 (-1)), (.int .i64 (-1))] 40]) (rs := [.cell 6 40]) (vs := [(.agg #[(.int .i64 (-1)), (.int .i64 (-1))])]) le4 rfl rfl ⟨⟨_, rfl, fun w hh => run_cellA (i := 0) hh rfl rfl ag40 sz40 rfl rfl⟩, trivial⟩ ?_
    exact ⟨rfl, rfl⟩
  · replace hd0 := sel_f e7 hd0; clear e7
    refine wg_skip ?_
    refine wg_seq ?_
    refine wg_region ?_
    refine wo_fieldR rfl fd27_2 pt_Mach2 rfl h2 fun v8 h9 => ?_
    refine wo_loadR rfl ty25 rfl h9 fun v10 h11 => ?_
    refine wo_v rfl (val_move (v := (.int .i64 s)) rfl) ?_
    have g12 := (gd_some hd0).1; replace hd0 := (gd_some hd0).2
    refine wo_indexR (i := s.toNat) rfl sl25 rfl (sl_s h11) (idx_nonneg rfl g12.1) (okI_lt g12) fun v13 h14 => ?_
    refine wo_loadR rfl ty41 rfl h14 fun v15 h16 => ?_
    refine wo_v rfl (val_move (v := (.int .i64 i)) rfl) ?_
    have g17 := (gd_some hd0).1; replace hd0 := (gd_some hd0).2
    refine wo_indexR (i := i.toNat) rfl sl41 rfl (sl_s h16) (idx_nonneg rfl g17.1) (okI_lt g17) fun v18 h19 => ?_
    refine wo_loadR rfl ty40 rfl h19 fun v20 h21 => ?_
    obtain rfl := vrep_Edge.1 h21
    refine wo_store (i := 0) (vs := [(.int .i64 ((ix (ix m.rows s) i).to)), (.int .i64 ((ix (ix m.rows s) i).out))]) sz40 rfl rfl rfl rfl rfl rfl (one_cons rfl (one_cons rfl one_nil)) ?_
    refine wo_nil ?_
    refine wg_ret ?_
    obtain rfl := Option.some.inj hd0
    refine body_end (D := []) (J := [box b5 [(.int .i64 ((ix (ix m.rows s) i).to)), (.int .i64 ((ix (ix m.rows s) i).out))] 40]) (rs := [.cell 6 40]) (vs := [(.agg #[(.int .i64 ((ix (ix m.rows s) i).to)), (.int .i64 ((ix (ix m.rows s) i).out))])]) le4 rfl rfl ⟨⟨_, rfl, fun w hh => run_cellA (i := 0) hh rfl rfl ag40 sz40 rfl rfl⟩, trivial⟩ ?_
    exact ⟨rfl, rfl⟩
theorem en45 : Enters Try.prog 45 := enters_of Try.func45 rfl (by kernel_rfl)
theorem c_gauntletref04_Run {N : Nat} {R : RH} {m : Mach} {v_m : Value} (h_m : VRep (kMach false false) R v_m m) {s : Int} {w_ : (List Int)} {v_w_ : Value} (h_w_ : VRep (tSl false (tInt .i64)) R v_w_ w_) {r : (List Int)} (hd0 : gauntletref04_Run N m s w_ = some r) : CallP Try.prog 24 #[v_m, (.int .i64 s), v_w_] R (fun v R' => VRep (tSl false (tInt .i64)) R' v r) := by
  refine callP_of_wg (args := [v_m, (.int .i64 s), v_w_]) Try.func24 rfl rfl fun A => ?_
  rw [gauntletref04_Run] at hd0
  refine wg_seq ?_
  refine wg_region ?_
  refine wo_boxR (T := (kMach false false)) rfl rfl h_m fun v1 R3 le4 h2 => ?_
  refine wo_v rfl (val_assign (v := (.slice none 0 0)) rfl) ?_
  refine wo_nil ?_
  refine wg_seq ?_
  refine wg_region ?_
  refine wo_v rfl (val_assign (v := (.slice none 0 0)) rfl) ?_
  refine wo_nil ?_
  replace hd0 := bd_some hd0; obtain ⟨o5, hd1, hd0⟩ := hd0
  refine wg_meet (γ := (List Int) × Value × Frag) true [8, 10, 11, 12, 13, 16, 17, 18, 19, 20, 21, 22, 9, 23, 24, 25, 26, 27, 7, 28, 29, 1, 14, 15] (fun g => [(7, g.2.1)]) (fun g => [g.2.2] ++ A) (fun g R => o5 = g.1 ∧ ORep (tInt .i64) R g.2.2 g.2.1 g.1 ∧ True) ?_ ?_
  ·
    refine wg_seq ?_
    refine wg_region ?_
    refine wo_v rfl (val_assign (v := (.int .i64 0)) rfl) ?_
    refine wo_nil ?_
    refine wg_block ?_
    refine wg_emp ?_
    refine wg_loopS (γ := Nat × Int × (List Int) × Int × Value × Frag) true [10, 11, 12, 13, 16, 17, 18, 19, 20, 21, 22, 9, 23, 24, 25, 26, 27, 7, 28, 29, 1, 14, 15, 8] (fun g => [(1, (.int .i64 g.2.1)), (7, g.2.2.2.2.1), (8, (.int .i64 g.2.2.2.1))]) (fun g => [g.2.2.2.2.2] ++ A) (fun g R => gauntletref04_Run_L1 N m w_ g.1 g.2.1 g.2.2.1 g.2.2.2.1 = some o5 ∧ ORep (tInt .i64) R g.2.2.2.2.2 g.2.2.2.2.1 g.2.2.1 ∧ True) (fun g => g.1) (N, s, ([] : List Int), 0, (.slice none 0 0), emp) ⟨rfl, rfl, rfl, trivial⟩ ⟨[], List.Perm.refl _⟩ ⟨hd1, (orep_emp (T := (tInt .i64))), trivial⟩ (fun _ => rfl) ?_
    clear hd1
    rintro ⟨F13, x14, x15, x16, v19, f20⟩ j61 D62 R17 hD63 le18 ⟨hd1, h21, _⟩
    obtain rfl := hD63 rfl
    rcases F13 with _ | F13
    · exact none_elim hd1
    replace hd1 : gauntletref04_Run_L1 N m w_ (F13 + 1) x14 x15 x16 = some o5 := hd1; rw [gauntletref04_Run_L1] at hd1
    refine wg_seq ?_
    refine wg_seq ?_
    refine wg_region ?_
    refine wo_v rfl (val_move (v := (.int .i64 x16)) rfl) ?_
    refine wo_v rfl (val_move (v := v_w_) rfl) ?_
    refine wo_v rfl (val_lenR rfl Try.underlying49 rfl (sl_s (h_w_.mono (le4.trans le18)))) ?_
    refine wo_v rfl (val_lss rfl rfl) ?_
    refine wo_nil ?_
    refine wg_cond rfl (fun e23 => ?_) (fun e23 => ?_)
    · replace hd1 := sel_t e23 hd1; clear e23
      refine wg_skip ?_
      refine wg_seq ?_
      refine wg_block ?_
      refine wg_seq ?_
      have g24 := (gd_some hd1).1; replace hd1 := (gd_some hd1).2
      replace hd1 := bd_some hd1; obtain ⟨y25, c26, hd1⟩ := hd1
      refine wg_drawn 8 [⟨7, [.int .i64 0, .int .i64 0], 40⟩] [phR (kMach false false) m, phX (.int .i64 x14), phX v_w_, phX (.int .i64 x16), phP (tInt .i64) (ix w_ x16), phX (.int .i64 (ix w_ x16)), phX (enc_Edge y25), phB] mixed (by kernel_rfl) (monoOk_of ⟨mono_r, mono_x, mono_x, mono_x, mono_p, mono_x, mono_x, mono_b, trivial⟩) ⟨?_, ?_, ?_, ?_, ?_, ?_, ?_, ?_, trivial⟩ fun R27 le28 => ?_
      · intro l R0q hle ha hd
        have a3 : l 3 = v1 := ha 3 rfl
        exact gstep_plain rfl rfl rfl (ph_loadR ty27 a3 ((h2.mono le18).mono hle))
      · intro l R1q hle ha hd
        have a1 : l 1 = (.int .i64 x14) := ha 1 rfl
        exact gstep_plain rfl rfl rfl (ph_val (val_move a1))
      · intro l R2q hle ha hd
        have a2 : l 2 = v_w_ := ha 2 rfl
        exact gstep_plain rfl rfl rfl (ph_val (val_move a2))
      · intro l R3q hle ha hd
        have a8 : l 8 = (.int .i64 x16) := ha 8 rfl
        exact gstep_plain rfl rfl rfl (ph_val (val_move a8))
      · intro l R4q hle ha hd
        obtain ⟨d0, d1, _⟩ := hd
        have f18 : l 18 = v_w_ := d0 rfl
        have f19 : l 19 = (.int .i64 x16) := d1 rfl
        exact gstep_plain rfl rfl rfl (ph_indexR (i := x16.toNat) sl49 f18 (sl_s ((h_w_.mono (le4.trans le18)).mono hle)) (idx_nonneg f19 g24.1) (okI_lt g24))
      · intro l R5q hle ha hd
        obtain ⟨d0, _⟩ := hd
        have f20 : phP (tInt .i64) (ix w_ x16) (l 20) R5q := d0 rfl
        exact gstep_plain rfl rfl rfl (ph_exact (ph_loadR ty3 rfl f20) (fun _ _ h => vrep_int.1 h))
      · intro l R6q hle ha hd
        obtain ⟨d0, d1, d2, _⟩ := hd
        have f16 : phR (kMach false false) m (l 16) R6q := d0 rfl
        have f17 : l 17 = (.int .i64 x14) := d1 rfl
        have f21 : l 21 = (.int .i64 (ix w_ x16)) := d2 rfl
        exact gstep_plain rfl rfl rfl (ph_callP en45 (by simp only [List.map, ev, f17, f21] <;> rfl) (c_gauntletref04_Next f16 c26) (fun _ _ h => h))
      · intro l R7q hle ha hd
        exact gstep_new rfl rfl rfl rfl za40
      intro v29 h30
      intro v31 h32
      intro v33 h34
      intro v35 h36
      intro v37 h38
      intro v39 h40
      intro v41 h42
      intro v43 h44
      obtain rfl := Eq.symm h32
      obtain rfl := Eq.symm h34
      obtain rfl := Eq.symm h36
      obtain rfl := Eq.symm h40
      obtain rfl := Eq.symm h42
      obtain ⟨b45, rfl⟩ := h44
      refine wo_store (i := 0) (vs := [(.int .i64 y25.to), (.int .i64 y25.out)]) sz40 rfl rfl rfl rfl rfl rfl (one_cons rfl (one_cons rfl one_nil)) ?_
      refine wo_nil ?_
      refine wg_seq ?_
      refine wg_region ?_
      refine wo_v rfl (val_move (v := v19) rfl) ?_
      refine wo_v rfl (val_fieldB fd40_1 rfl) ?_
      refine wo_v rfl (val_loadB (i := 0) ag3 rfl rfl rfl) ?_
      refine wo_lit (T := (tInt .i64)) (X := ([y25.out] : List Int)) (ps := [(0, (.int .i64 y25.out))]) (css := [[(.int .i64 y25.out)]]) rfl Try.underlying49 zo3 rfl rfl (lit_reps ⟨rfl, trivial⟩) rfl rfl (by decide) fun v47 f48 cap49 h50 => ?_
      refine wo_freeze (i := 0) rfl h50 fun R52 le53 h54 => ?_
      have h55 : VRep (tSl true (tInt .i64)) R52 v47 ([y25.out] : List Int) := (sl_t h54 cap49)
      have g56 := (gd_some hd1).1; replace hd1 := (gd_some hd1).2
      refine wo_append (i := 1) (X := x15) (Y := ([y25.out] : List Int)) rfl Try.underlying49 zo3 rfl rfl rfl (h21.mono (le28.trans le53)) (sl_s (Sub.v (B := (tSl false (tInt .i64))) (sub_sl Sub.refl (fun _ => rfl)) h55)) g56.1 g56.2 fun v57 f58 h59 => ?_
      refine wo_v rfl (val_assign (v := v57) rfl) ?_
      refine wo_nil ?_
      refine wg_region ?_
      refine wo_v rfl (val_fieldB fd40_0 rfl) ?_
      refine wo_v rfl (val_loadB (i := 0) ag3 rfl rfl rfl) ?_
      refine wo_v rfl (val_assign (v := (.int .i64 y25.to)) rfl) ?_
      refine wo_nil ?_
      refine wg_region ?_
      refine wo_v rfl (val_move (v := (.int .i64 x16)) rfl) ?_
      have g60 := (gd_some hd1).1; replace hd1 := (gd_some hd1).2
      refine wo_v rfl (val_add rfl rfl g60) ?_
      refine wo_v rfl (val_assign (v := (.int .i64 (x16 + 1))) rfl) ?_
      refine wo_nil ?_
      exact ⟨(fun _ => rfl), (le28.trans le53), (by repeat (first | exact off_self | refine off_upd rfl ?_ | refine off_setl rfl ?_ | refine off_mask_sub rfl ?_)), (F13, y25.to, (x15 ++ ([y25.out] : List Int)), x16 + 1, v57, f58), Nat.lt_succ_self _, ⟨rfl, rfl, rfl, trivial⟩, ⟨[box b45 [(.int .i64 y25.to), (.int .i64 y25.out)] 40], (List.Perm.refl _)⟩, hd1, h59, trivial⟩
    · replace hd1 := sel_f e23 hd1; clear e23
      refine wg_exit ?_
      exact ⟨(fun _ => rfl), le18, (by repeat (first | exact off_self | refine off_upd rfl ?_ | refine off_setl rfl ?_ | refine off_mask_sub rfl ?_)), (x15, v19, f20), ⟨rfl, trivial⟩, ⟨[], List.Perm.refl _⟩, (Option.some.inj hd1).symm, h21, trivial⟩
  ·
    rintro ⟨o5, v8, f9⟩ j64 D65 R6 hD66 le7 ⟨rfl, h10, _⟩
    obtain rfl := hD66 rfl
    refine wg_seq ?_
    refine wg_region ?_
    refine wo_v rfl (val_move (v := v8) rfl) ?_
    refine wo_v rfl (val_assign (v := v8) rfl) ?_
    refine wo_nil ?_
    refine wg_freeze (i := 0) rfl h10 fun R67 le68 h69 => ?_
    have h70 : VRep (tSl false (tInt .i64)) R67 v8 o5 := (sl_f h69)
    refine wg_ret ?_
    obtain rfl := Option.some.inj hd0
    refine body_end (D := []) (J := []) (rs := [.tmp 6]) (vs := [v8]) ((le4.trans le7).trans le68) rfl rfl ⟨rfl, trivial⟩ ?_
    exact ⟨rfl, h70⟩
theorem en25 : Enters Try.prog 25 := enters_of Try.func25 rfl (by kernel_rfl)
theorem c_gauntletref04_After_rec {N : Nat} (F : Nat) : ∀ {R : RH} {m : Mach} {v_m : Value} (h_m : VRep (kMach false false) R v_m m) {s : Int} {w_ : (List Int)} {v_w_ : Value} (h_w_ : VRep (tSl false (tInt .i64)) R v_w_ w_) {r : Int} (hd0 : gauntletref04_After N F m s w_ = some r), CallP Try.prog 25 #[v_m, (.int .i64 s), v_w_] R (fun v R' => v = (.int .i64 r)) := by
  induction F with
  | zero => intros; rename_i hd0; exact none_elim hd0
  | succ F ih =>
    intro R m v_m h_m s w_ v_w_ h_w_ r hd0
    refine callP_of_wg (args := [v_m, (.int .i64 s), v_w_]) Try.func25 rfl rfl fun A => ?_
    rw [gauntletref04_After] at hd0
    refine wg_seq ?_
    refine wg_region ?_
    refine wo_boxR (T := (kMach false false)) rfl rfl h_m fun v1 R3 le4 h2 => ?_
    refine wo_v rfl (val_assign (v := (.int .i64 0)) rfl) ?_
    refine wo_nil ?_
    refine wg_seq ?_
    refine wg_seq ?_
    refine wg_region ?_
    refine wo_v rfl (val_move (v := v_w_) rfl) ?_
    refine wo_v rfl (val_lenR rfl Try.underlying49 rfl (sl_s (h_w_.mono le4))) ?_
    refine wo_v rfl (val_eql rfl rfl) ?_
    refine wo_nil ?_
    refine wg_cond rfl (fun e5 => ?_) (fun e5 => ?_)
    · replace hd0 := sel_t e5 hd0; clear e5
      refine wg_seq ?_
      refine wg_region ?_
      refine wo_v rfl (val_move (v := (.int .i64 s)) rfl) ?_
      refine wo_v rfl (val_assign (v := (.int .i64 s)) rfl) ?_
      refine wo_nil ?_
      refine wg_ret ?_
      obtain rfl := Option.some.inj hd0
      refine body_end (D := []) (J := []) (rs := [.tmp 6]) (vs := [(.int .i64 s)]) le4 rfl rfl ⟨rfl, trivial⟩ ?_
      exact ⟨rfl, rfl⟩
    · replace hd0 := sel_f e5 hd0; clear e5
      refine wg_skip ?_
      refine wg_seq ?_
      have g6 := (gd_some hd0).1; replace hd0 := (gd_some hd0).2
      replace hd0 := bd_some hd0; obtain ⟨y7, c8, hd0⟩ := hd0
      have g9 := (gd_some hd0).1; replace hd0 := (gd_some hd0).2
      replace hd0 := bd_some hd0; obtain ⟨y10, c11, hd0⟩ := hd0
      refine wg_drawn 12 [] [phR (kMach false false) m, phR (kMach false false) m, phX (.int .i64 s), phX v_w_, phP (tInt .i64) (ix w_ 0), phX (.int .i64 (ix w_ 0)), phX (enc_Edge y7), phX (.int .i64 y7.to), phX v_w_, phR (tSl false (tInt .i64)) (cut w_ 1 (↑w_.length : Int)), phX (.int .i64 y10), phX (.int .i64 y10)] mixed (by kernel_rfl) (monoOk_of ⟨mono_r, mono_r, mono_x, mono_x, mono_p, mono_x, mono_x, mono_x, mono_x, mono_r, mono_x, mono_x, trivial⟩) ⟨?_, ?_, ?_, ?_, ?_, ?_, ?_, ?_, ?_, ?_, ?_, ?_, trivial⟩ fun R12 le13 => ?_
      · intro l R0q hle ha hd
        have a3 : l 3 = v1 := ha 3 rfl
        exact gstep_plain rfl rfl rfl (ph_loadR ty27 a3 (h2.mono hle))
      · intro l R1q hle ha hd
        have a3 : l 3 = v1 := ha 3 rfl
        exact gstep_plain rfl rfl rfl (ph_loadR ty27 a3 (h2.mono hle))
      · intro l R2q hle ha hd
        have a1 : l 1 = (.int .i64 s) := ha 1 rfl
        exact gstep_plain rfl rfl rfl (ph_val (val_move a1))
      · intro l R3q hle ha hd
        have a2 : l 2 = v_w_ := ha 2 rfl
        exact gstep_plain rfl rfl rfl (ph_val (val_move a2))
      · intro l R4q hle ha hd
        obtain ⟨d0, _⟩ := hd
        have f14 : l 14 = v_w_ := d0 rfl
        exact gstep_plain rfl rfl rfl (ph_indexR (i := (0 : Int).toNat) sl49 f14 (sl_s ((h_w_.mono le4).mono hle)) (idx_nonneg rfl g6.1) (okI_lt g6))
      · intro l R5q hle ha hd
        obtain ⟨d0, _⟩ := hd
        have f15 : phP (tInt .i64) (ix w_ 0) (l 15) R5q := d0 rfl
        exact gstep_plain rfl rfl rfl (ph_exact (ph_loadR ty3 rfl f15) (fun _ _ h => vrep_int.1 h))
      · intro l R6q hle ha hd
        obtain ⟨d0, d1, d2, _⟩ := hd
        have f12 : phR (kMach false false) m (l 12) R6q := d0 rfl
        have f13 : l 13 = (.int .i64 s) := d1 rfl
        have f16 : l 16 = (.int .i64 (ix w_ 0)) := d2 rfl
        exact gstep_plain rfl rfl rfl (ph_callP en45 (by simp only [List.map, ev, f13, f16] <;> rfl) (c_gauntletref04_Next f12 c8) (fun _ _ h => h))
      · intro l R7q hle ha hd
        obtain ⟨d0, _⟩ := hd
        have f17 : l 17 = (enc_Edge y7) := d0 rfl
        exact gstep_plain rfl rfl rfl (ph_val (val_field (v := (enc_Edge y7)) (u := (.int .i64 y7.to)) f17 (fun w => by kernel_rfl)))
      · intro l R8q hle ha hd
        have a2 : l 2 = v_w_ := ha 2 rfl
        exact gstep_plain rfl rfl rfl (ph_val (val_move a2))
      · intro l R9q hle ha hd
        obtain ⟨d0, _⟩ := hd
        have f19 : l 19 = v_w_ := d0 rfl
        exact gstep_plain rfl rfl rfl (ph_sliceF (lo := (1 : Int).toNat) (hi := (↑w_.length : Int).toNat) (mx := (capOf v_w_)) (X' := (cut w_ 1 (↑w_.length : Int))) sl49 f19 (sl_s ((h_w_.mono le4).mono hle)) (.inr ⟨_, congrArg some (idx_nonneg rfl g9.1)⟩) (.inl ⟨rfl, rfl, rfl⟩) (.inl ⟨rfl, rfl⟩) (okS_1 g9) (okS_2 g9) (fun h => Nat.le_trans (okS_2 g9) h) (fun _ => Nat.le_refl _) rfl)
      · intro l R10q hle ha hd
        obtain ⟨d0, d1, d2, d3, _⟩ := hd
        have f11 : phR (kMach false false) m (l 11) R10q := d0 rfl
        have f18 : l 18 = (.int .i64 y7.to) := d1 rfl
        have f20 : phR (tSl false (tInt .i64)) (cut w_ 1 (↑w_.length : Int)) (l 20) R10q := d2 rfl
        exact gstep_plain rfl rfl rfl (ph_callP en25 (by simp only [List.map, ev, f18] <;> rfl) (ih f11 f20 c11) (fun _ _ h => h))
      · intro l R11q hle ha hd
        obtain ⟨d0, d1, d2, d3, d4, d5, d6, d7, d8, d9, d10, d11, d12, _⟩ := hd
        have f21 : l 21 = (.int .i64 y10) := d0 rfl
        exact gstep_plain rfl rfl rfl (ph_val (val_assign f21))
      intro v14 h15
      intro v16 h17
      intro v18 h19
      intro v20 h21
      intro v22 h23
      intro v24 h25
      intro v26 h27
      intro v28 h29
      intro v30 h31
      intro v32 h33
      intro v34 h35
      intro v36 h37
      obtain rfl := Eq.symm h19
      obtain rfl := Eq.symm h21
      obtain rfl := Eq.symm h25
      obtain rfl := Eq.symm h27
      obtain rfl := Eq.symm h29
      obtain rfl := Eq.symm h31
      obtain rfl := Eq.symm h35
      obtain rfl := Eq.symm h37
      refine wo_nil ?_
      refine wg_ret ?_
      obtain rfl := Option.some.inj hd0
      refine body_end (D := []) (J := []) (rs := [.tmp 6]) (vs := [(.int .i64 y10)]) (le4.trans le13) rfl rfl ⟨rfl, trivial⟩ ?_
      exact ⟨rfl, rfl⟩
theorem c_gauntletref04_After {N : Nat} {R : RH} {m : Mach} {v_m : Value} (h_m : VRep (kMach false false) R v_m m) {s : Int} {w_ : (List Int)} {v_w_ : Value} (h_w_ : VRep (tSl false (tInt .i64)) R v_w_ w_) {r : Int} (hd0 : gauntletref04_After N N m s w_ = some r) : CallP Try.prog 25 #[v_m, (.int .i64 s), v_w_] R (fun v R' => v = (.int .i64 r)) := c_gauntletref04_After_rec N h_m h_w_ hd0
theorem en24 : Enters Try.prog 24 := enters_of Try.func24 rfl (by kernel_rfl)
theorem c_gauntletlaw04_MachinesRun {N : Nat} {R : RH} {x : MDat} {v_x : Value} (h_x : VRep (kMDat false) R v_x x) {y : WDat} {v_y : Value} (h_y : VRep (kWDat false) R v_y y) {from_ : Int} {r : Bool} (hd0 : gauntletlaw04_MachinesRun N x y from_ = some r) : CallP Try.prog 4 #[v_x, v_y, (.int .u8 from_)] R (fun v R' => v = (.bool r)) := by
  refine callP_of_wg (args := [v_x, v_y, (.int .u8 from_)]) Try.func4 rfl rfl fun A => ?_
  rw [gauntletlaw04_MachinesRun] at hd0
  refine wg_seq ?_
  refine wg_region ?_
  refine wo_boxR (T := (kMDat false)) rfl rfl h_x fun v1 R3 le4 h2 => ?_
  refine wo_boxR (T := (kWDat false)) rfl rfl (h_y.mono le4) fun v5 R7 le8 h6 => ?_
  refine wo_v rfl (val_assign (v := (.bool false)) rfl) ?_
  refine wo_nil ?_
  refine wg_seq ?_
  refine wg_region ?_
  refine wo_loadR rfl ty24 rfl (h2.mono le8) fun v9 h10 => ?_
  replace hd0 := bd_some hd0; obtain ⟨y11, c12, hd0⟩ := hd0
  refine wo_callP rfl en10 rfl (c_gauntletlaw04_M_Of h10 c12) fun v13 R15 le16 h14 => ?_
  refine wo_alloc rfl za27 fun b17 => ?_
  obtain ⟨v19, rfl, h20⟩ := cases_Mach h14
  refine wo_store (i := 0) (vs := [(.int .i64 y11.inputs), (.int .i64 y11.outputs), v19]) sz27 rfl rfl rfl rfl rfl rfl (one_cons rfl (one_cons rfl (one_cons (sl_one h20) one_nil))) ?_
  refine wo_nil ?_
  refine wg_seq ?_
  refine wg_region ?_
  refine wo_loadR rfl ty48 rfl (h6.mono le16) fun v21 h22 => ?_
  refine wo_v rfl (val_fieldB fd27_0 rfl) ?_
  refine wo_v rfl (val_loadB (i := 0) ag3 rfl rfl rfl) ?_
  replace hd0 := bd_some hd0; obtain ⟨y23, c24, hd0⟩ := hd0
  refine wo_callP rfl en20 rfl (c_gauntletlaw01_W_Of h22 c24) fun v25 R27 le28 h26 => ?_
  refine wo_v rfl (val_assign (v := v25) rfl) ?_
  refine wo_nil ?_
  refine wg_seq ?_
  refine wg_region ?_
  refine wo_v rfl (val_move (v := (.int .u8 from_)) rfl) ?_
  have g29 := (gd_some hd0).1; replace hd0 := (gd_some hd0).2
  refine wo_v rfl (val_conv64 Try.underlying5 Try.underlying3 rfl g29) ?_
  refine wo_v rfl (val_fieldB fd27_2 rfl) ?_
  refine wo_v rfl (val_loadB (i := 0) ag25 rfl rfl rfl) ?_
  refine wo_v rfl (val_lenR rfl Try.underlying25 rfl (sl_s (h20.mono le28))) ?_
  have g30 := (gd_some hd0).1; replace hd0 := (gd_some hd0).2
  refine wo_v rfl (val_rem0 rfl rfl g30) ?_
  refine wo_v rfl (val_assign (v := (.int .i64 (from_ % (↑y11.rows.length : Int)))) rfl) ?_
  refine wo_nil ?_
  refine wg_seq ?_
  refine wg_region ?_
  refine wo_v rfl (val_loadBA (i := 0) ag27 sz27 rfl rfl rfl rfl) ?_
  refine wo_v rfl (val_move (v := (.int .i64 (from_ % (↑y11.rows.length : Int)))) rfl) ?_
  refine wo_v rfl (val_move (v := v25) rfl) ?_
  replace hd0 := bd_some hd0; obtain ⟨y31, c32, hd0⟩ := hd0
  refine wo_callP rfl en21 rfl (c_machines_Run (⟨_, ⟨_, _, rfl, rfl, ⟨_, _, rfl, rfl, (rep_one rfl (h20.mono le28))⟩⟩, rfl⟩ : VRep (kMach false false) _ _ (⟨y11.inputs, y11.outputs, y11.rows⟩ : Mach)) h26 c32) fun v33 R35 le36 h34 => ?_
  obtain ⟨v37, rfl, h38⟩ := h34
  refine wo_v rfl (val_move (v := (.tuple #[v37, (.int .i64 y31.2)])) rfl) ?_
  refine wo_v rfl (val_extract rfl rfl) ?_
  refine wo_v rfl (val_extract rfl rfl) ?_
  refine wo_v rfl (val_assign (v := v37) rfl) ?_
  refine wo_v rfl (val_assign (v := (.int .i64 y31.2)) rfl) ?_
  refine wo_nil ?_
  refine wg_seq ?_
  refine wg_region ?_
  refine wo_v rfl (val_loadBA (i := 0) ag27 sz27 rfl rfl rfl rfl) ?_
  refine wo_v rfl (val_move (v := (.int .i64 (from_ % (↑y11.rows.length : Int)))) rfl) ?_
  refine wo_v rfl (val_move (v := v25) rfl) ?_
  replace hd0 := bd_some hd0; obtain ⟨y39, c40, hd0⟩ := hd0
  refine wo_callP rfl en22 rfl (c_machines_After (⟨_, ⟨_, _, rfl, rfl, ⟨_, _, rfl, rfl, (rep_one rfl (h20.mono (le28.trans le36)))⟩⟩, rfl⟩ : VRep (kMach false false) _ _ (⟨y11.inputs, y11.outputs, y11.rows⟩ : Mach)) (h26.mono le36) c40) fun v41 R43 le44 h42 => ?_
  obtain rfl := h42
  refine wo_v rfl (val_move (v := (.tuple #[(.int .i64 y39.1), (.int .i64 y39.2)])) rfl) ?_
  refine wo_v rfl (val_extract rfl rfl) ?_
  refine wo_v rfl (val_extract rfl rfl) ?_
  refine wo_v rfl (val_assign (v := (.int .i64 y39.1)) rfl) ?_
  refine wo_v rfl (val_assign (v := (.int .i64 y39.2)) rfl) ?_
  refine wo_nil ?_
  refine wg_seq ?_
  refine wg_seq ?_
  replace hd0 := bd_some hd0; obtain ⟨y45, c46, hd0⟩ := hd0
  replace hd0 := bd_some hd0; obtain ⟨y47, c48, hd0⟩ := hd0
  replace hd0 := bd_some hd0; obtain ⟨y49, c50, hd0⟩ := hd0
  refine wg_guarded 20 [] [phX (.int .i64 y39.2), phX (.bool (decide (y39.2 ≠ 0))), phX (.bool (decide (y39.2 ≠ 0))), phG (true && ((decide (y39.2 ≠ 0)) == false)) (phX v37), phG (true && ((decide (y39.2 ≠ 0)) == false)) (phX (.int .i64 y31.2)), phG (true && ((decide (y39.2 ≠ 0)) == false)) (phX (.agg #[(.int .i64 y11.inputs), (.int .i64 y11.outputs), v19])), phG (true && ((decide (y39.2 ≠ 0)) == false)) (phX (.int .i64 (from_ % (↑y11.rows.length : Int)))), phG (true && ((decide (y39.2 ≠ 0)) == false)) (phX v25), phG (true && ((decide (y39.2 ≠ 0)) == false)) (phR (tSl false (tInt .i64)) (y45.getD default)), phG (true && ((decide (y39.2 ≠ 0)) == false)) (phX (.bool (y47.getD default))), phG (true && ((decide (y39.2 ≠ 0)) == false)) (phX (.bool (!(y47.getD default)))), phX (.bool ((decide (y39.2 ≠ 0)) || (!(y47.getD default)))), phX (.bool ((decide (y39.2 ≠ 0)) || (!(y47.getD default)))), phG (true && (((decide (y39.2 ≠ 0)) || (!(y47.getD default))) == false)) (phX (.int .i64 y39.1)), phG (true && (((decide (y39.2 ≠ 0)) || (!(y47.getD default))) == false)) (phX (.agg #[(.int .i64 y11.inputs), (.int .i64 y11.outputs), v19])), phG (true && (((decide (y39.2 ≠ 0)) || (!(y47.getD default))) == false)) (phX (.int .i64 (from_ % (↑y11.rows.length : Int)))), phG (true && (((decide (y39.2 ≠ 0)) || (!(y47.getD default))) == false)) (phX v25), phG (true && (((decide (y39.2 ≠ 0)) || (!(y47.getD default))) == false)) (phX (.int .i64 (y49.getD default))), phG (true && (((decide (y39.2 ≠ 0)) || (!(y47.getD default))) == false)) (phX (.bool (decide (y39.1 ≠ (y49.getD default))))), phX (.bool (((decide (y39.2 ≠ 0)) || (!(y47.getD default))) || (decide (y39.1 ≠ (y49.getD default)))))] (by kernel_rfl) (by kernel_rfl) (monoOk_of ⟨mono_x, mono_x, mono_x, (mono_g mono_x), (mono_g mono_x), (mono_g mono_x), (mono_g mono_x), (mono_g mono_x), (mono_g mono_r), (mono_g mono_x), (mono_g mono_x), mono_x, mono_x, (mono_g mono_x), (mono_g mono_x), (mono_g mono_x), (mono_g mono_x), (mono_g mono_x), (mono_g mono_x), mono_x, trivial⟩) ⟨?_, ?_, ?_, ?_, ?_, ?_, ?_, ?_, ?_, ?_, ?_, ?_, ?_, ?_, ?_, ?_, ?_, ?_, ?_, ?_, trivial⟩ fun R51 le52 => ?_
  · intro l R0q hle ha hd
    have a13 : l 13 = (.int .i64 y39.2) := ha 13 rfl
    exact gstep_plain rfl rfl rfl (ph_val (val_move a13))
  · intro l R1q hle ha hd
    obtain ⟨d0, _⟩ := hd
    have f44 : l 44 = (.int .i64 y39.2) := d0 rfl
    exact gstep_plain rfl rfl rfl (ph_val (val_neq f44 rfl))
  · intro l R2q hle ha hd
    obtain ⟨d0, _⟩ := hd
    have f45 : l 45 = (.bool (decide (y39.2 ≠ 0))) := d0 rfl
    exact gstep_plain rfl rfl rfl (ph_val (val_move f45))
  · intro l R3q hle ha hd
    obtain ⟨d0, _⟩ := hd
    have a10 : l 10 = v37 := ha 10 rfl
    exact gstep_guard (Gj := true) (Bj := decide (y39.2 ≠ 0)) rfl rfl rfl (gtrue (d0 rfl)) rfl (fun hG hB => ph_val (val_move a10))
  · intro l R4q hle ha hd
    obtain ⟨d0, _⟩ := hd
    have a11 : l 11 = (.int .i64 y31.2) := ha 11 rfl
    exact gstep_guard (Gj := true) (Bj := decide (y39.2 ≠ 0)) rfl rfl rfl (gtrue (d0 rfl)) rfl (fun hG hB => ph_val (val_move a11))
  · intro l R5q hle ha hd
    obtain ⟨d0, _⟩ := hd
    have a7 : l 7 = (.pointer (some ⟨b17, 0, none⟩)) := ha 7 rfl
    exact gstep_guard (Gj := true) (Bj := decide (y39.2 ≠ 0)) rfl rfl rfl (gtrue (d0 rfl)) rfl (fun hG hB => ph_val (val_loadBA (i := 0) ag27 sz27 a7 rfl rfl rfl))
  · intro l R6q hle ha hd
    obtain ⟨d0, _⟩ := hd
    have a9 : l 9 = (.int .i64 (from_ % (↑y11.rows.length : Int))) := ha 9 rfl
    exact gstep_guard (Gj := true) (Bj := decide (y39.2 ≠ 0)) rfl rfl rfl (gtrue (d0 rfl)) rfl (fun hG hB => ph_val (val_move a9))
  · intro l R7q hle ha hd
    obtain ⟨d0, _⟩ := hd
    have a8 : l 8 = v25 := ha 8 rfl
    exact gstep_guard (Gj := true) (Bj := decide (y39.2 ≠ 0)) rfl rfl rfl (gtrue (d0 rfl)) rfl (fun hG hB => ph_val (val_move a8))
  · intro l R8q hle ha hd
    obtain ⟨d0, d1, d2, d3, d4, _⟩ := hd
    have f49g : phG (true && ((decide (y39.2 ≠ 0)) == false)) (phX (.agg #[(.int .i64 y11.inputs), (.int .i64 y11.outputs), v19])) (l 49) R8q := d0 rfl
    have f50g : phG (true && ((decide (y39.2 ≠ 0)) == false)) (phX (.int .i64 (from_ % (↑y11.rows.length : Int)))) (l 50) R8q := d1 rfl
    have f51g : phG (true && ((decide (y39.2 ≠ 0)) == false)) (phX v25) (l 51) R8q := d2 rfl
    exact gstep_guard (Gj := true) (Bj := decide (y39.2 ≠ 0)) rfl rfl rfl (gtrue (d3 rfl)) rfl (fun hG hB => ph_callP en24 (by simp only [List.map, ev, (show l 49 = (.agg #[(.int .i64 y11.inputs), (.int .i64 y11.outputs), v19]) from f49g.1 (gandT rfl hB)), (show l 50 = (.int .i64 (from_ % (↑y11.rows.length : Int))) from f50g.1 (gandT rfl hB)), (show l 51 = v25 from f51g.1 (gandT rfl hB))] <;> rfl) (c_gauntletref04_Run (⟨_, ⟨_, _, rfl, rfl, ⟨_, _, rfl, rfl, (rep_one rfl ((h20.mono ((le28.trans le36).trans le44)).mono hle))⟩⟩, rfl⟩ : VRep (kMach false false) _ _ (⟨y11.inputs, y11.outputs, y11.rows⟩ : Mach)) ((h26.mono (le36.trans le44)).mono hle) (gop_def c46 (gandT hG hB))) (fun _ _ h => h))
  · intro l R9q hle ha hd
    obtain ⟨d0, d1, d2, d3, d4, _⟩ := hd
    have f47g : phG (true && ((decide (y39.2 ≠ 0)) == false)) (phX v37) (l 47) R9q := d0 rfl
    have f48g : phG (true && ((decide (y39.2 ≠ 0)) == false)) (phX (.int .i64 y31.2)) (l 48) R9q := d1 rfl
    have f52g : phG (true && ((decide (y39.2 ≠ 0)) == false)) (phR (tSl false (tInt .i64)) (y45.getD default)) (l 52) R9q := d2 rfl
    exact gstep_guard (Gj := true) (Bj := decide (y39.2 ≠ 0)) rfl rfl rfl (gtrue (d4 rfl)) rfl (fun hG hB => ph_callP en23 (by simp only [List.map, ev, (show l 47 = v37 from f47g.1 (gandT rfl hB)), (show l 48 = (.int .i64 y31.2) from f48g.1 (gandT rfl hB))] <;> rfl) (c_gauntletlaw04_list ((h38.mono le44).mono hle) (f52g.1 (gandT rfl hB)) (gop_def c48 (gandT hG hB))) (fun _ _ h => h))
  · intro l R10q hle ha hd
    obtain ⟨d0, d1, _⟩ := hd
    have f53g : phG (true && ((decide (y39.2 ≠ 0)) == false)) (phX (.bool (y47.getD default))) (l 53) R10q := d0 rfl
    exact gstep_guard (Gj := true) (Bj := decide (y39.2 ≠ 0)) rfl rfl rfl (gtrue (d1 rfl)) rfl (fun hG hB => ph_val (val_not (show l 53 = (.bool (y47.getD default)) from f53g.1 (gandT rfl hB))))
  · intro l R11q hle ha hd
    obtain ⟨d0, d1, _⟩ := hd
    have f46 : l 46 = (.bool (decide (y39.2 ≠ 0))) := d0 rfl
    have f54g : phG (true && ((decide (y39.2 ≠ 0)) == false)) (phX (.bool (!(y47.getD default)))) (l 54) R11q := d1 rfl
    exact gstep_plain rfl rfl rfl (ph_val (val_or f46 rfl (fun hb => (show l 54 = (.bool (!(y47.getD default))) from f54g.1 (gandT rfl hb)))))
  · intro l R12q hle ha hd
    obtain ⟨d0, d1, _⟩ := hd
    have f55 : l 55 = (.bool ((decide (y39.2 ≠ 0)) || (!(y47.getD default)))) := d0 rfl
    exact gstep_plain rfl rfl rfl (ph_val (val_move f55))
  · intro l R13q hle ha hd
    obtain ⟨d0, _⟩ := hd
    have a12 : l 12 = (.int .i64 y39.1) := ha 12 rfl
    exact gstep_guard (Gj := true) (Bj := (decide (y39.2 ≠ 0)) || (!(y47.getD default))) rfl rfl rfl (gtrue (d0 rfl)) rfl (fun hG hB => ph_val (val_move a12))
  · intro l R14q hle ha hd
    obtain ⟨d0, _⟩ := hd
    have a7 : l 7 = (.pointer (some ⟨b17, 0, none⟩)) := ha 7 rfl
    exact gstep_guard (Gj := true) (Bj := (decide (y39.2 ≠ 0)) || (!(y47.getD default))) rfl rfl rfl (gtrue (d0 rfl)) rfl (fun hG hB => ph_val (val_loadBA (i := 0) ag27 sz27 a7 rfl rfl rfl))
  · intro l R15q hle ha hd
    obtain ⟨d0, _⟩ := hd
    have a9 : l 9 = (.int .i64 (from_ % (↑y11.rows.length : Int))) := ha 9 rfl
    exact gstep_guard (Gj := true) (Bj := (decide (y39.2 ≠ 0)) || (!(y47.getD default))) rfl rfl rfl (gtrue (d0 rfl)) rfl (fun hG hB => ph_val (val_move a9))
  · intro l R16q hle ha hd
    obtain ⟨d0, _⟩ := hd
    have a8 : l 8 = v25 := ha 8 rfl
    exact gstep_guard (Gj := true) (Bj := (decide (y39.2 ≠ 0)) || (!(y47.getD default))) rfl rfl rfl (gtrue (d0 rfl)) rfl (fun hG hB => ph_val (val_move a8))
  · intro l R17q hle ha hd
    obtain ⟨d0, d1, d2, d3, d4, _⟩ := hd
    have f58g : phG (true && (((decide (y39.2 ≠ 0)) || (!(y47.getD default))) == false)) (phX (.agg #[(.int .i64 y11.inputs), (.int .i64 y11.outputs), v19])) (l 58) R17q := d0 rfl
    have f59g : phG (true && (((decide (y39.2 ≠ 0)) || (!(y47.getD default))) == false)) (phX (.int .i64 (from_ % (↑y11.rows.length : Int)))) (l 59) R17q := d1 rfl
    have f60g : phG (true && (((decide (y39.2 ≠ 0)) || (!(y47.getD default))) == false)) (phX v25) (l 60) R17q := d2 rfl
    exact gstep_guard (Gj := true) (Bj := (decide (y39.2 ≠ 0)) || (!(y47.getD default))) rfl rfl rfl (gtrue (d3 rfl)) rfl (fun hG hB => ph_callP en25 (by simp only [List.map, ev, (show l 58 = (.agg #[(.int .i64 y11.inputs), (.int .i64 y11.outputs), v19]) from f58g.1 (gandT rfl hB)), (show l 59 = (.int .i64 (from_ % (↑y11.rows.length : Int))) from f59g.1 (gandT rfl hB)), (show l 60 = v25 from f60g.1 (gandT rfl hB))] <;> rfl) (c_gauntletref04_After (⟨_, ⟨_, _, rfl, rfl, ⟨_, _, rfl, rfl, (rep_one rfl ((h20.mono ((le28.trans le36).trans le44)).mono hle))⟩⟩, rfl⟩ : VRep (kMach false false) _ _ (⟨y11.inputs, y11.outputs, y11.rows⟩ : Mach)) ((h26.mono (le36.trans le44)).mono hle) (gop_def c50 (gandT hG hB))) (fun _ _ h => h))
  · intro l R18q hle ha hd
    obtain ⟨d0, d1, d2, _⟩ := hd
    have f57g : phG (true && (((decide (y39.2 ≠ 0)) || (!(y47.getD default))) == false)) (phX (.int .i64 y39.1)) (l 57) R18q := d0 rfl
    have f61g : phG (true && (((decide (y39.2 ≠ 0)) || (!(y47.getD default))) == false)) (phX (.int .i64 (y49.getD default))) (l 61) R18q := d1 rfl
    exact gstep_guard (Gj := true) (Bj := (decide (y39.2 ≠ 0)) || (!(y47.getD default))) rfl rfl rfl (gtrue (d2 rfl)) rfl (fun hG hB => ph_val (val_neq (show l 57 = (.int .i64 y39.1) from f57g.1 (gandT rfl hB)) (show l 61 = (.int .i64 (y49.getD default)) from f61g.1 (gandT rfl hB))))
  · intro l R19q hle ha hd
    obtain ⟨d0, d1, _⟩ := hd
    have f56 : l 56 = (.bool ((decide (y39.2 ≠ 0)) || (!(y47.getD default)))) := d0 rfl
    have f62g : phG (true && (((decide (y39.2 ≠ 0)) || (!(y47.getD default))) == false)) (phX (.bool (decide (y39.1 ≠ (y49.getD default))))) (l 62) R19q := d1 rfl
    exact gstep_plain rfl rfl rfl (ph_val (val_or f56 rfl (fun hb => (show l 62 = (.bool (decide (y39.1 ≠ (y49.getD default)))) from f62g.1 (gandT rfl hb)))))
  intro v53 h54
  intro v55 h56
  intro v57 h58
  intro v59 h60
  intro v61 h62
  intro v63 h64
  intro v65 h66
  intro v67 h68
  intro v69 h70
  intro v71 h72
  intro v73 h74
  intro v75 h76
  intro v77 h78
  intro v79 h80
  intro v81 h82
  intro v83 h84
  intro v85 h86
  intro v87 h88
  intro v89 h90
  intro v91 h92
  obtain rfl := Eq.symm h54
  obtain rfl := Eq.symm h56
  obtain rfl := Eq.symm h58
  obtain rfl := Eq.symm h76
  obtain rfl := Eq.symm h78
  obtain rfl := Eq.symm h92
  refine wo_nil ?_
  refine wg_cond rfl (fun e93 => ?_) (fun e93 => ?_)
  · replace hd0 := sel_t e93 hd0; clear e93
    refine wg_seq ?_
    refine wg_region ?_
    refine wo_v rfl (val_assign (v := (.bool false)) rfl) ?_
    refine wo_nil ?_
    refine wg_ret ?_
    obtain rfl := Option.some.inj hd0
    refine body_end (D := []) (J := [box b17 [(.int .i64 y11.inputs), (.int .i64 y11.outputs), v19] 27]) (rs := [.tmp 6]) (vs := [(.bool false)]) ((((((le4.trans le8).trans le16).trans le28).trans le36).trans le44).trans le52) rfl rfl ⟨rfl, trivial⟩ ?_
    exact ⟨rfl, rfl⟩
  · replace hd0 := sel_f e93 hd0; clear e93
    refine wg_skip ?_
    replace hd0 := bd_some hd0; obtain ⟨q95, hd1, hd0⟩ := hd0
    refine wg_meet (γ := Int) true [14, 64, 65, 66, 67, 70, 15, 71, 72, 74, 75, 76, 77, 78, 79, 80, 73, 81, 82, 16, 17, 83, 84, 6, 85, 86, 87, 88, 89, 90, 91, 92, 93, 94, 95, 96, 97, 98, 99, 100, 101, 102, 103, 104, 105, 9, 68, 69] (fun g => [(9, (.int .i64 g))]) (fun g => [] ++ A) (fun g R => q95 = Ex.go g ∧ True) ?_ ?_
    ·
      refine wg_seq ?_
      refine wg_region ?_
      refine wo_v rfl (val_assign (v := (.int .i64 0)) rfl) ?_
      refine wo_nil ?_
      refine wg_block ?_
      refine wg_loopS (γ := Nat × Int × Int) true [64, 65, 66, 67, 70, 15, 71, 72, 74, 75, 76, 77, 78, 79, 80, 73, 81, 82, 16, 17, 83, 84, 6, 85, 86, 87, 88, 89, 90, 91, 92, 93, 94, 95, 96, 97, 98, 99, 100, 101, 102, 103, 104, 105, 9, 68, 69, 14] (fun g => [(9, (.int .i64 g.2.1)), (14, (.int .i64 g.2.2))]) (fun g => [box b17 [(.int .i64 y11.inputs), (.int .i64 y11.outputs), v19] 27] ++ A) (fun g R => gauntletlaw04_MachinesRun_L1 N y11 y23 y31 g.1 g.2.1 g.2.2 = some q95 ∧ True) (fun g => g.1) (N, from_ % (↑y11.rows.length : Int), 0) ⟨rfl, rfl, trivial⟩ ⟨[], List.Perm.refl _⟩ ⟨hd1, trivial⟩ (fun _ => rfl) ?_
      clear hd1
      rintro ⟨F98, x99, x100⟩ j197 D198 R101 hD199 le102 ⟨hd1, _⟩
      obtain rfl := hD199 rfl
      rcases F98 with _ | F98
      · exact none_elim hd1
      replace hd1 : gauntletlaw04_MachinesRun_L1 N y11 y23 y31 (F98 + 1) x99 x100 = some q95 := hd1; rw [gauntletlaw04_MachinesRun_L1] at hd1
      refine wg_seq ?_
      refine wg_seq ?_
      refine wg_region ?_
      refine wo_v rfl (val_move (v := (.int .i64 x100)) rfl) ?_
      refine wo_v rfl (val_move (v := v25) rfl) ?_
      refine wo_v rfl (val_lenR rfl Try.underlying49 rfl (sl_s (h26.mono (((le36.trans le44).trans le52).trans le102)))) ?_
      refine wo_v rfl (val_lss rfl rfl) ?_
      refine wo_nil ?_
      refine wg_cond rfl (fun e103 => ?_) (fun e103 => ?_)
      · replace hd1 := sel_t e103 hd1; clear e103
        refine wg_skip ?_
        refine wg_seq ?_
        refine wg_block ?_
        refine wg_seq ?_
        refine wg_region ?_
        replace hd1 := bd_some hd1; obtain ⟨y104, c105, hd1⟩ := hd1
        refine wo_callP rfl en18 rfl (c_gauntletlaw04_edge  c105) fun v106 R108 le109 h107 => ?_
        obtain rfl := h107
        refine wo_alloc rfl za40 fun b110 => ?_
        refine wo_store (i := 0) (vs := [(.int .i64 y104.to), (.int .i64 y104.out)]) sz40 rfl rfl rfl rfl rfl rfl (one_cons rfl (one_cons rfl one_nil)) ?_
        refine wo_nil ?_
        replace hd1 := bd_some hd1; obtain ⟨q113, hd2, hd1⟩ := hd1
        refine wg_meet (γ := (Int × Int)) true [71, 72, 74, 75, 76, 77, 78, 79, 80, 73, 81, 82, 16, 17, 83, 84, 6, 85] (fun g => []) (fun g => [box b17 [(.int .i64 y11.inputs), (.int .i64 y11.outputs), v19] 27, box b110 [(.int .i64 g.1), (.int .i64 g.2)] 40] ++ A) (fun g R => q113 = Ex.go g ∧ True) ?_ ?_
        ·
          refine wg_seq ?_
          refine wg_region ?_
          refine wo_v rfl (val_move (v := (.int .i64 x99)) rfl) ?_
          refine wo_v rfl (val_geq rfl rfl) ?_
          refine wo_nil ?_
          refine wg_cond rfl (fun e116 => ?_) (fun e116 => ?_)
          · replace hd2 := sel_t e116 hd2; clear e116
            refine wg_seq ?_
            have g117 := (gd_some hd2).1; replace hd2 := (gd_some hd2).2
            replace hd2 := bd_some hd2; obtain ⟨y118, c119, hd2⟩ := hd2
            refine wg_free [10, 11] [(fun es => phX (.agg #[(.int .i64 y11.inputs), (.int .i64 y11.outputs), v19])), (fun es => phX (.int .i64 x99)), (fun es => phX v25), (fun es => phX (.int .i64 x100)), (fun es => phP (tInt .i64) (ix y23 x100)), (fun es => phX (.int .i64 (ix y23 x100))), (fun es => phX (.tuple #[(enc_Edge y118.1), (.int .i64 y118.2)])), (fun es => phX (.tuple #[(enc_Edge y118.1), (.int .i64 y118.2)])), (fun es => phX (enc_Edge y118.1)), (fun es => phX (.int .i64 y118.2)), (fun es => (fun v _ => v = .pointer (some ⟨blkOf v, 0, none⟩))), (fun es => (fun _ _ => True)), (fun es => phX (.int .i64 y118.2))] (fun fl es R O => (fl = [false, false] ∧ O.Perm ([box b110 [(.int .i64 y104.to), (.int .i64 y104.out)] 40, box b17 [(.int .i64 y11.inputs), (.int .i64 y11.outputs), v19] 27] ++ A) ∧ True) ∨ (fl = [true, false] ∧ O.Perm ([box b110 [(.int .i64 y104.to), (.int .i64 y104.out)] 40, box b17 [(.int .i64 y11.inputs), (.int .i64 y11.outputs), v19] 27, box (blkOf (es.getD 0 undef)) [(.int .i64 0), (.int .i64 0)] 40] ++ A) ∧ True) ∨ (fl = [true, true] ∧ O.Perm ([box b110 [(.int .i64 y104.to), (.int .i64 y104.out)] 40, box b17 [(.int .i64 y11.inputs), (.int .i64 y11.outputs), v19] 27, box (blkOf (es.getD 0 undef)) [(.int .i64 y118.1.to), (.int .i64 y118.1.out)] 40] ++ A) ∧ True)) mixed (by kernel_rfl) ⟨(monoE_of mono_x), (monoE_of mono_x), (monoE_of mono_x), (monoE_of mono_x), (monoE_of mono_p), (monoE_of mono_x), (monoE_of mono_x), (monoE_of mono_x), (monoE_of mono_x), (monoE_of mono_x), (fun _ _ _ _ _ h => h), (fun _ _ _ _ _ h => h), (monoE_of mono_x), trivial⟩ (by
                rintro fl es R R' O hle (⟨rfl, hp, _⟩ | ⟨rfl, hp, _⟩ | ⟨rfl, hp, _⟩)
                · exact (.inl ⟨rfl, hp, trivial⟩)
                · exact (.inr (.inl ⟨rfl, hp, trivial⟩))
                · exact (.inr (.inr ⟨rfl, hp, trivial⟩))) ⟨(fun _ _ _ _ _ h => h), (fun _ _ _ _ _ h => h), (fun _ _ _ _ _ h => h), (fun _ _ _ _ _ h => h), (fun _ _ _ _ _ h => h), (fun _ _ _ _ _ h => h), (fun _ _ _ _ _ h => h), (fun _ _ _ _ _ h => h), (fun _ _ _ _ _ h => h), (fun _ _ _ _ _ h => h), (fun _ _ _ _ _ h => h), (fun _ _ _ _ _ h => h), (fun _ _ _ _ _ h => h), trivial⟩ (fun es => .inl ⟨rfl, (List.Perm.refl _), trivial⟩) ⟨?_, ?_, ?_, ?_, ?_, ?_, ?_, ?_, ?_, ?_, ?_, ?_, ?_, trivial⟩ fun R121 le122 => ?_
            · intro l R0q fl O hle ha hd hk hW
              have a7 : l 7 = (.pointer (some ⟨b17, 0, none⟩)) := ha 7 rfl
              rcases hW with ⟨rfl, hp, _⟩ | ⟨rfl, hp, _⟩ | ⟨rfl, hp, _⟩
              · exact eff_permP hp (ph_val (val_loadBA (i := 1) ag27 sz27 a7 rfl rfl rfl))
              · exact eff_permP hp (ph_val (val_loadBA (i := 1) ag27 sz27 a7 rfl rfl rfl))
              · exact kn_no hk (by kernel_rfl)
            · intro l R1q fl O hle ha hd hk hW
              have a9 : l 9 = (.int .i64 x99) := ha 9 rfl
              exact ph_val (val_move a9)
            · intro l R2q fl O hle ha hd hk hW
              have a8 : l 8 = v25 := ha 8 rfl
              exact ph_val (val_move a8)
            · intro l R3q fl O hle ha hd hk hW
              have a14 : l 14 = (.int .i64 x100) := ha 14 rfl
              exact ph_val (val_move a14)
            · intro l R4q fl O hle ha hd hk hW
              obtain ⟨d0, d1, _⟩ := hd
              have f76 : l 76 = v25 := d0 rfl
              have f77 : l 77 = (.int .i64 x100) := d1 rfl
              exact ph_indexR (i := x100.toNat) sl49 f76 (sl_s ((h26.mono ((((le36.trans le44).trans le52).trans le102).trans le109)).mono hle)) (idx_nonneg f77 g117.1) (okI_lt g117)
            · intro l R5q fl O hle ha hd hk hW
              obtain ⟨d0, _⟩ := hd
              have f78 : phP (tInt .i64) (ix y23 x100) (l 78) R5q := d0 rfl
              exact ph_exact (ph_loadR ty3 rfl f78) (fun _ _ h => vrep_int.1 h)
            · intro l R6q fl O hle ha hd hk hW
              obtain ⟨d0, d1, d2, _⟩ := hd
              have f74 : l 74 = (.agg #[(.int .i64 y11.inputs), (.int .i64 y11.outputs), v19]) := d0 rfl
              have f75 : l 75 = (.int .i64 x99) := d1 rfl
              have f79 : l 79 = (.int .i64 (ix y23 x100)) := d2 rfl
              exact ph_callP en26 (by simp only [List.map, ev, f74, f75, f79] <;> rfl) (c_machines_Step (⟨_, ⟨_, _, rfl, rfl, ⟨_, _, rfl, rfl, (rep_one rfl ((h20.mono (((((le28.trans le36).trans le44).trans le52).trans le102).trans le109)).mono hle))⟩⟩, rfl⟩ : VRep (kMach false false) _ _ (⟨y11.inputs, y11.outputs, y11.rows⟩ : Mach)) c119) (fun _ _ h => h)
            · intro l R7q fl O hle ha hd hk hW
              obtain ⟨d0, _⟩ := hd
              have f80 : l 80 = (.tuple #[(enc_Edge y118.1), (.int .i64 y118.2)]) := d0 rfl
              exact ph_val (val_move f80)
            · intro l R8q fl O hle ha hd hk hW
              obtain ⟨d0, _⟩ := hd
              have f73 : l 73 = (.tuple #[(enc_Edge y118.1), (.int .i64 y118.2)]) := d0 rfl
              have ht := f73
              exact ph_val (val_extract ht rfl)
            · intro l R9q fl O hle ha hd hk hW
              obtain ⟨d0, d1, _⟩ := hd
              have f73 : l 73 = (.tuple #[(enc_Edge y118.1), (.int .i64 y118.2)]) := d0 rfl
              have ht := f73
              exact ph_val (val_extract ht rfl)
            · intro l R10q fl O hle ha hd hk hf hW
              rcases hW with ⟨rfl, hp, _⟩ | ⟨rfl, hp, _⟩ | ⟨rfl, hp, _⟩
              · refine eff_perm hp ?_
                refine Eff.mono (eff_alloc za40) ?_
                rintro v R' O' hle' ⟨rfl, b, rfl, rfl⟩
                exact ⟨rfl, .inr (.inl ⟨rfl, (pk 1 rfl (pk 1 rfl (pk 0 rfl (List.Perm.refl _)))), trivial⟩)⟩
              · cases hf
              · cases hf
            · intro l R11q fl O hle ha hd hk hf hW
              obtain ⟨d0, d1, d2, d3, d4, d5, d6, d7, d8, d9, d10, d11, d12, d13, _⟩ := hd
              have f16 : l 16 = (.pointer (some ⟨(blkOf (l 16)), 0, none⟩)) := d0 rfl
              have f81 : l 81 = (enc_Edge y118.1) := d1 rfl
              rcases hW with ⟨rfl, hp, _⟩ | ⟨rfl, hp, _⟩ | ⟨rfl, hp, _⟩
              · exact kn_no hk (by kernel_rfl)
              · refine eff_perm hp ?_
                refine Eff.mono (eff_store (i := 2) (vs := [(.int .i64 y118.1.to), (.int .i64 y118.1.out)]) sz40 f16 f81 rfl rfl rfl (Nat.le_of_ble_eq_true rfl) (one_cons rfl (one_cons rfl one_nil))) ?_
                rintro v R' O' hle' ⟨_, rfl, rfl⟩
                exact ⟨trivial, .inr (.inr ⟨rfl, (List.Perm.refl _), trivial⟩)⟩
              · cases hf
            · intro l R12q fl O hle ha hd hk hW
              obtain ⟨d0, d1, d2, d3, d4, d5, d6, d7, d8, d9, d10, d11, d12, d13, _⟩ := hd
              have f82 : l 82 = (.int .i64 y118.2) := d0 rfl
              exact ph_val (val_assign f82)
            intro v123
            intro v124
            intro v125
            intro v126
            intro v127
            intro v128
            intro v129
            intro v130
            intro v131
            intro v132
            intro v133
            intro v134
            intro h135
            intro h136
            intro h137
            intro h138
            intro h139
            intro h140
            intro h141
            intro h142
            intro h143
            intro h144
            intro h145
            intro h146
            rintro OO147 (⟨e, _⟩ | ⟨e, _⟩ | ⟨_, hp, _⟩)
            · cases e
            · cases e
            refine ⟨[], _, hp, ?_⟩
            obtain ⟨b148, rfl⟩ : ∃ b, v133 = .pointer (some ⟨b, 0, none⟩) := ⟨_, h145⟩
            obtain rfl := Eq.symm h135
            obtain rfl := Eq.symm h136
            obtain rfl := Eq.symm h137
            obtain rfl := Eq.symm h138
            obtain rfl := Eq.symm h140
            obtain rfl := Eq.symm h141
            obtain rfl := Eq.symm h142
            obtain rfl := Eq.symm h143
            obtain rfl := Eq.symm h144
            obtain rfl := Eq.symm h146
            refine wo_nil ?_
            refine wg_seq ?_
            refine wg_seq ?_
            refine wg_region ?_
            refine wo_v rfl (val_move (v := (.int .i64 y118.2)) rfl) ?_
            refine wo_v rfl (val_neq rfl rfl) ?_
            refine wo_nil ?_
            refine wg_cond rfl (fun e149 => ?_) (fun e149 => ?_)
            · replace hd2 := sel_t e149 hd2; clear e149
              refine wg_seq ?_
              refine wg_region ?_
              refine wo_v rfl (val_assign (v := (.bool false)) rfl) ?_
              refine wo_nil ?_
              refine wg_ret ?_
              replace hd1 := on_rt hd2 hd1
              replace hd0 := on_rt hd1 hd0
              obtain rfl := Option.some.inj hd0
              refine body_end (D := []) (J := [box b110 [(.int .i64 y104.to), (.int .i64 y104.out)] 40, box b17 [(.int .i64 y11.inputs), (.int .i64 y11.outputs), v19] 27, box b148 [(.int .i64 y118.1.to), (.int .i64 y118.1.out)] 40]) (rs := [.tmp 6]) (vs := [(.bool false)]) (((((((((le4.trans le8).trans le16).trans le28).trans le36).trans le44).trans le52).trans le102).trans le109).trans le122) rfl rfl ⟨rfl, trivial⟩ ?_
              exact ⟨rfl, rfl⟩
            · replace hd2 := sel_f e149 hd2; clear e149
              refine wg_skip ?_
              refine wg_region ?_
              refine wo_v rfl (val_loadBA (i := 2) ag40 sz40 rfl rfl rfl rfl) ?_
              refine wo_store (i := 0) (vs := [(.int .i64 y118.1.to), (.int .i64 y118.1.out)]) sz40 rfl rfl rfl rfl rfl rfl (one_cons rfl (one_cons rfl one_nil)) ?_
              refine wo_nil ?_
              exact ⟨(fun _ => rfl), le122, (by repeat (first | exact off_self | refine off_upd rfl ?_ | refine off_setl rfl ?_ | refine off_mask_sub rfl ?_)), (y118.1.to, y118.1.out), trivial, ⟨[box b148 [(.int .i64 y118.1.to), (.int .i64 y118.1.out)] 40], (pk 2 rfl (pk 1 rfl (pk 0 rfl (List.Perm.refl _))))⟩, (Option.some.inj hd2).symm, trivial⟩
          · replace hd2 := sel_f e116 hd2; clear e116
            refine wg_skip ?_
            exact ⟨(fun _ => rfl), (RH.le.refl _), (by repeat (first | exact off_self | refine off_upd rfl ?_ | refine off_setl rfl ?_ | refine off_mask_sub rfl ?_)), (y104.to, y104.out), trivial, ⟨[], (pk 1 rfl (pk 0 rfl (List.Perm.refl _)))⟩, (Option.some.inj hd2).symm, trivial⟩
        ·
          rintro o112 j150 D151 R114 hD152 le115 ⟨rfl, _⟩
          obtain rfl := hD152 rfl
          replace hd1 := on_go hd1
          refine wg_seq ?_
          refine wg_seq ?_
          have g153 := (gd_some hd1).1; replace hd1 := (gd_some hd1).2
          have g154 := (gd_some hd1).1; replace hd1 := (gd_some hd1).2
          replace hd1 := bd_some hd1; obtain ⟨y155, c156, hd1⟩ := hd1
          refine wg_drawn 18 [] [phX v37, phX (.int .i64 x100), phP (tInt .i64) (ix y31.1 x100), phX (.int .i64 (ix y31.1 x100)), phX (.pointer (some ⟨b110, 1, none⟩)), phX (.int .i64 o112.2), phX (.bool (decide ((ix y31.1 x100) ≠ o112.2))), phX (.bool (decide ((ix y31.1 x100) ≠ o112.2))), phG (true && ((decide ((ix y31.1 x100) ≠ o112.2)) == false)) (phX v37), phG (true && ((decide ((ix y31.1 x100) ≠ o112.2)) == false)) (phX (.int .i64 x100)), phG (true && ((decide ((ix y31.1 x100) ≠ o112.2)) == false)) (phP (tInt .i64) (ix y31.1 x100)), phG (true && ((decide ((ix y31.1 x100) ≠ o112.2)) == false)) (phX (.int .i64 (ix y31.1 x100))), phG (true && ((decide ((ix y31.1 x100) ≠ o112.2)) == false)) (phX (.bool (decide ((ix y31.1 x100) < 0)))), phG (true && ((decide ((ix y31.1 x100) ≠ o112.2)) == false)) (phX (.bool (decide ((ix y31.1 x100) < 0)))), phG ((true && ((decide ((ix y31.1 x100) ≠ o112.2)) == false)) && ((decide ((ix y31.1 x100) < 0)) == true)) (phX (.agg #[(.int .i64 y11.inputs), (.int .i64 y11.outputs), v19])), phG ((true && ((decide ((ix y31.1 x100) ≠ o112.2)) == false)) && ((decide ((ix y31.1 x100) < 0)) == true)) (phX (.bool (y155.getD default))), phG (true && ((decide ((ix y31.1 x100) ≠ o112.2)) == false)) (phX (.bool ((decide ((ix y31.1 x100) < 0)) && (y155.getD default)))), phX (.bool ((decide ((ix y31.1 x100) ≠ o112.2)) || ((decide ((ix y31.1 x100) < 0)) && (y155.getD default))))] mixed (by kernel_rfl) (monoOk_of ⟨mono_x, mono_x, mono_p, mono_x, mono_x, mono_x, mono_x, mono_x, (mono_g mono_x), (mono_g mono_x), (mono_g mono_p), (mono_g mono_x), (mono_g mono_x), (mono_g mono_x), (mono_g mono_x), (mono_g mono_x), (mono_g mono_x), mono_x, trivial⟩) ⟨?_, ?_, ?_, ?_, ?_, ?_, ?_, ?_, ?_, ?_, ?_, ?_, ?_, ?_, ?_, ?_, ?_, ?_, trivial⟩ fun R157 le158 => ?_
          · intro l R0q hle ha hd
            have a10 : l 10 = v37 := ha 10 rfl
            exact gstep_plain rfl rfl rfl (ph_val (val_move a10))
          · intro l R1q hle ha hd
            have a14 : l 14 = (.int .i64 x100) := ha 14 rfl
            exact gstep_plain rfl rfl rfl (ph_val (val_move a14))
          · intro l R2q hle ha hd
            obtain ⟨d0, d1, _⟩ := hd
            have f86 : l 86 = v37 := d0 rfl
            have f87 : l 87 = (.int .i64 x100) := d1 rfl
            exact gstep_plain rfl rfl rfl (ph_indexR (i := x100.toNat) sl49 f86 (sl_s ((h38.mono ((((le44.trans le52).trans le102).trans le109).trans le115)).mono hle)) (idx_nonneg f87 g153.1) (okI_lt g153))
          · intro l R3q hle ha hd
            obtain ⟨d0, _⟩ := hd
            have f88 : phP (tInt .i64) (ix y31.1 x100) (l 88) R3q := d0 rfl
            exact gstep_plain rfl rfl rfl (ph_exact (ph_loadR ty3 rfl f88) (fun _ _ h => vrep_int.1 h))
          · intro l R4q hle ha hd
            have a15 : l 15 = (.pointer (some ⟨b110, 0, none⟩)) := ha 15 rfl
            exact gstep_plain rfl rfl rfl (ph_val (val_fieldB fd40_1 a15))
          · intro l R5q hle ha hd
            obtain ⟨d0, _⟩ := hd
            have f90 : l 90 = (.pointer (some ⟨b110, 1, none⟩)) := d0 rfl
            exact gstep_plain rfl rfl rfl (ph_val (val_loadB (i := 1) ag3 f90 rfl rfl))
          · intro l R6q hle ha hd
            obtain ⟨d0, d1, _⟩ := hd
            have f89 : l 89 = (.int .i64 (ix y31.1 x100)) := d0 rfl
            have f91 : l 91 = (.int .i64 o112.2) := d1 rfl
            exact gstep_plain rfl rfl rfl (ph_val (val_neq f89 f91))
          · intro l R7q hle ha hd
            obtain ⟨d0, _⟩ := hd
            have f92 : l 92 = (.bool (decide ((ix y31.1 x100) ≠ o112.2))) := d0 rfl
            exact gstep_plain rfl rfl rfl (ph_val (val_move f92))
          · intro l R8q hle ha hd
            obtain ⟨d0, _⟩ := hd
            have a10 : l 10 = v37 := ha 10 rfl
            exact gstep_guard (Gj := true) (Bj := decide ((ix y31.1 x100) ≠ o112.2)) rfl rfl rfl (gtrue (d0 rfl)) rfl (fun hG hB => ph_val (val_move a10))
          · intro l R9q hle ha hd
            obtain ⟨d0, _⟩ := hd
            have a14 : l 14 = (.int .i64 x100) := ha 14 rfl
            exact gstep_guard (Gj := true) (Bj := decide ((ix y31.1 x100) ≠ o112.2)) rfl rfl rfl (gtrue (d0 rfl)) rfl (fun hG hB => ph_val (val_move a14))
          · intro l R10q hle ha hd
            obtain ⟨d0, d1, d2, _⟩ := hd
            have f94g : phG (true && ((decide ((ix y31.1 x100) ≠ o112.2)) == false)) (phX v37) (l 94) R10q := d0 rfl
            have f95g : phG (true && ((decide ((ix y31.1 x100) ≠ o112.2)) == false)) (phX (.int .i64 x100)) (l 95) R10q := d1 rfl
            exact gstep_guard (Gj := true) (Bj := decide ((ix y31.1 x100) ≠ o112.2)) rfl rfl rfl (gtrue (d2 rfl)) rfl (fun hG hB => ph_indexR (i := x100.toNat) sl49 (show l 94 = v37 from f94g.1 (gandT rfl hB)) (sl_s ((h38.mono ((((le44.trans le52).trans le102).trans le109).trans le115)).mono hle)) (idx_nonneg (show l 95 = (.int .i64 x100) from f95g.1 (gandT rfl hB)) (g154 (gandT hG hB)).1) (okI_lt (g154 (gandT hG hB))))
          · intro l R11q hle ha hd
            obtain ⟨d0, d1, _⟩ := hd
            have f96g : phG (true && ((decide ((ix y31.1 x100) ≠ o112.2)) == false)) (phP (tInt .i64) (ix y31.1 x100)) (l 96) R11q := d0 rfl
            exact gstep_guard (Gj := true) (Bj := decide ((ix y31.1 x100) ≠ o112.2)) rfl rfl rfl (gtrue (d1 rfl)) rfl (fun hG hB => ph_exact (ph_loadR ty3 rfl (f96g.1 (gandT rfl hB))) (fun _ _ h => vrep_int.1 h))
          · intro l R12q hle ha hd
            obtain ⟨d0, d1, _⟩ := hd
            have f97g : phG (true && ((decide ((ix y31.1 x100) ≠ o112.2)) == false)) (phX (.int .i64 (ix y31.1 x100))) (l 97) R12q := d0 rfl
            exact gstep_guard (Gj := true) (Bj := decide ((ix y31.1 x100) ≠ o112.2)) rfl rfl rfl (gtrue (d1 rfl)) rfl (fun hG hB => ph_val (val_lss (show l 97 = (.int .i64 (ix y31.1 x100)) from f97g.1 (gandT rfl hB)) rfl))
          · intro l R13q hle ha hd
            obtain ⟨d0, d1, d2, _⟩ := hd
            have f98g : phG (true && ((decide ((ix y31.1 x100) ≠ o112.2)) == false)) (phX (.bool (decide ((ix y31.1 x100) < 0)))) (l 98) R13q := d0 rfl
            exact gstep_guard (Gj := true) (Bj := decide ((ix y31.1 x100) ≠ o112.2)) rfl rfl rfl (gtrue (d1 rfl)) rfl (fun hG hB => ph_val (val_move (show l 98 = (.bool (decide ((ix y31.1 x100) < 0))) from f98g.1 (gandT rfl hB))))
          · intro l R14q hle ha hd
            obtain ⟨d0, _⟩ := hd
            have a7 : l 7 = (.pointer (some ⟨b17, 0, none⟩)) := ha 7 rfl
            exact gstep_guard (Gj := (true && ((decide ((ix y31.1 x100) ≠ o112.2)) == false))) (Bj := decide ((ix y31.1 x100) < 0)) rfl rfl rfl (d0 rfl) rfl (fun hG hB => ph_val (val_loadBA (i := 0) ag27 sz27 a7 rfl rfl rfl))
          · intro l R15q hle ha hd
            obtain ⟨d0, d1, d2, _⟩ := hd
            have f100g : phG ((true && ((decide ((ix y31.1 x100) ≠ o112.2)) == false)) && ((decide ((ix y31.1 x100) < 0)) == true)) (phX (.agg #[(.int .i64 y11.inputs), (.int .i64 y11.outputs), v19])) (l 100) R15q := d0 rfl
            exact gstep_guard (Gj := (true && ((decide ((ix y31.1 x100) ≠ o112.2)) == false))) (Bj := decide ((ix y31.1 x100) < 0)) rfl rfl rfl (d1 rfl) rfl (fun hG hB => ph_callP en15 (by simp only [List.map, ev, (show l 100 = (.agg #[(.int .i64 y11.inputs), (.int .i64 y11.outputs), v19]) from f100g.1 (gandT hG hB))] <;> rfl) (c_gauntletref04_Complete (⟨_, ⟨_, _, rfl, rfl, ⟨_, _, rfl, rfl, (rep_one rfl ((h20.mono ((((((le28.trans le36).trans le44).trans le52).trans le102).trans le109).trans le115)).mono hle))⟩⟩, rfl⟩ : VRep (kMach false false) _ _ (⟨y11.inputs, y11.outputs, y11.rows⟩ : Mach)) (gop_def c156 (gandT hG hB))) (fun _ _ h => h))
          · intro l R16q hle ha hd
            obtain ⟨d0, d1, d2, _⟩ := hd
            have f99g : phG (true && ((decide ((ix y31.1 x100) ≠ o112.2)) == false)) (phX (.bool (decide ((ix y31.1 x100) < 0)))) (l 99) R16q := d0 rfl
            have f101g : phG ((true && ((decide ((ix y31.1 x100) ≠ o112.2)) == false)) && ((decide ((ix y31.1 x100) < 0)) == true)) (phX (.bool (y155.getD default))) (l 101) R16q := d1 rfl
            exact gstep_guard (Gj := true) (Bj := decide ((ix y31.1 x100) ≠ o112.2)) rfl rfl rfl (gtrue (d2 rfl)) rfl (fun hG hB => ph_val (val_and (show l 99 = (.bool (decide ((ix y31.1 x100) < 0))) from f99g.1 (gandT rfl hB)) (fun hb => (show l 101 = (.bool (y155.getD default)) from f101g.1 (gandT (gandT rfl hB) hb))) rfl))
          · intro l R17q hle ha hd
            obtain ⟨d0, d1, _⟩ := hd
            have f93 : l 93 = (.bool (decide ((ix y31.1 x100) ≠ o112.2))) := d0 rfl
            have f102g : phG (true && ((decide ((ix y31.1 x100) ≠ o112.2)) == false)) (phX (.bool ((decide ((ix y31.1 x100) < 0)) && (y155.getD default)))) (l 102) R17q := d1 rfl
            exact gstep_plain rfl rfl rfl (ph_val (val_or f93 rfl (fun hb => (show l 102 = (.bool ((decide ((ix y31.1 x100) < 0)) && (y155.getD default))) from f102g.1 (gandT rfl hb)))))
          intro v159 h160
          intro v161 h162
          intro v163 h164
          intro v165 h166
          intro v167 h168
          intro v169 h170
          intro v171 h172
          intro v173 h174
          intro v175 h176
          intro v177 h178
          intro v179 h180
          intro v181 h182
          intro v183 h184
          intro v185 h186
          intro v187 h188
          intro v189 h190
          intro v191 h192
          intro v193 h194
          obtain rfl := Eq.symm h160
          obtain rfl := Eq.symm h162
          obtain rfl := Eq.symm h166
          obtain rfl := Eq.symm h168
          obtain rfl := Eq.symm h170
          obtain rfl := Eq.symm h172
          obtain rfl := Eq.symm h174
          obtain rfl := Eq.symm h194
          refine wo_nil ?_
          refine wg_cond rfl (fun e195 => ?_) (fun e195 => ?_)
          · replace hd1 := sel_t e195 hd1; clear e195
            refine wg_seq ?_
            refine wg_region ?_
            refine wo_v rfl (val_assign (v := (.bool false)) rfl) ?_
            refine wo_nil ?_
            refine wg_ret ?_
            replace hd0 := on_rt hd1 hd0
            obtain rfl := Option.some.inj hd0
            refine body_end (D := []) (J := [box b17 [(.int .i64 y11.inputs), (.int .i64 y11.outputs), v19] 27, box b110 [(.int .i64 o112.1), (.int .i64 o112.2)] 40]) (rs := [.tmp 6]) (vs := [(.bool false)]) ((((((((((le4.trans le8).trans le16).trans le28).trans le36).trans le44).trans le52).trans le102).trans le109).trans le115).trans le158) rfl rfl ⟨rfl, trivial⟩ ?_
            exact ⟨rfl, rfl⟩
          · replace hd1 := sel_f e195 hd1; clear e195
            refine wg_skip ?_
            refine wg_region ?_
            refine wo_v rfl (val_fieldB fd40_0 rfl) ?_
            refine wo_v rfl (val_loadB (i := 1) ag3 rfl rfl rfl) ?_
            refine wo_v rfl (val_assign (v := (.int .i64 o112.1)) rfl) ?_
            refine wo_nil ?_
            refine wg_region ?_
            refine wo_v rfl (val_move (v := (.int .i64 x100)) rfl) ?_
            have g196 := (gd_some hd1).1; replace hd1 := (gd_some hd1).2
            refine wo_v rfl (val_add rfl rfl g196) ?_
            refine wo_v rfl (val_assign (v := (.int .i64 (x100 + 1))) rfl) ?_
            refine wo_nil ?_
            exact ⟨(fun _ => rfl), ((le109.trans le115).trans le158), (by repeat (first | exact off_self | refine off_upd rfl ?_ | refine off_setl rfl ?_ | refine off_mask_sub rfl ?_)), (F98, o112.1, x100 + 1), Nat.lt_succ_self _, ⟨rfl, rfl, trivial⟩, ⟨[box b110 [(.int .i64 o112.1), (.int .i64 o112.2)] 40], (pk 1 rfl (pk 0 rfl (List.Perm.refl _)))⟩, hd1, trivial⟩
      · replace hd1 := sel_f e103 hd1; clear e103
        refine wg_exit ?_
        exact ⟨(fun _ => rfl), le102, (by repeat (first | exact off_self | refine off_upd rfl ?_ | refine off_setl rfl ?_ | refine off_mask_sub rfl ?_)), x99, ⟨rfl, trivial⟩, ⟨[box b17 [(.int .i64 y11.inputs), (.int .i64 y11.outputs), v19] 27], (List.Perm.refl _)⟩, (Option.some.inj hd1).symm, trivial⟩
    ·
      rintro o94 j200 D201 R96 hD202 le97 ⟨rfl, _⟩
      obtain rfl := hD202 rfl
      replace hd0 := on_go hd0
      refine wg_seq ?_
      replace hd0 := bd_some hd0; obtain ⟨y203, c204, hd0⟩ := hd0
      refine wg_guarded 7 [] [phX (.int .i64 o94), phX (.int .i64 y39.1), phX (.bool (decide (o94 = y39.1))), phX (.bool (decide (o94 = y39.1))), phG (true && ((decide (o94 = y39.1)) == true)) (phX (.bool (y203.getD default))), phX (.bool ((decide (o94 = y39.1)) && (y203.getD default))), phX (.bool ((decide (o94 = y39.1)) && (y203.getD default)))] (by kernel_rfl) (by kernel_rfl) (monoOk_of ⟨mono_x, mono_x, mono_x, mono_x, (mono_g mono_x), mono_x, mono_x, trivial⟩) ⟨?_, ?_, ?_, ?_, ?_, ?_, ?_, trivial⟩ fun R205 le206 => ?_
      · intro l R0q hle ha hd
        have a9 : l 9 = (.int .i64 o94) := ha 9 rfl
        exact gstep_plain rfl rfl rfl (ph_val (val_move a9))
      · intro l R1q hle ha hd
        have a12 : l 12 = (.int .i64 y39.1) := ha 12 rfl
        exact gstep_plain rfl rfl rfl (ph_val (val_move a12))
      · intro l R2q hle ha hd
        obtain ⟨d0, d1, _⟩ := hd
        have f106 : l 106 = (.int .i64 o94) := d0 rfl
        have f107 : l 107 = (.int .i64 y39.1) := d1 rfl
        exact gstep_plain rfl rfl rfl (ph_val (val_eql f106 f107))
      · intro l R3q hle ha hd
        obtain ⟨d0, _⟩ := hd
        have f108 : l 108 = (.bool (decide (o94 = y39.1))) := d0 rfl
        exact gstep_plain rfl rfl rfl (ph_val (val_move f108))
      · intro l R4q hle ha hd
        obtain ⟨d0, d1, _⟩ := hd
        exact gstep_guard (Gj := true) (Bj := decide (o94 = y39.1)) rfl rfl rfl (gtrue (d0 rfl)) rfl (fun hG hB => ph_callP en19 rfl (c_gauntletlaw04_lives  (gop_def c204 (gandT hG hB))) (fun _ _ h => h))
      · intro l R5q hle ha hd
        obtain ⟨d0, d1, _⟩ := hd
        have f109 : l 109 = (.bool (decide (o94 = y39.1))) := d0 rfl
        have f110g : phG (true && ((decide (o94 = y39.1)) == true)) (phX (.bool (y203.getD default))) (l 110) R5q := d1 rfl
        exact gstep_plain rfl rfl rfl (ph_val (val_and f109 (fun hb => (show l 110 = (.bool (y203.getD default)) from f110g.1 (gandT rfl hb))) rfl))
      · intro l R6q hle ha hd
        obtain ⟨d0, d1, d2, d3, d4, d5, d6, d7, _⟩ := hd
        have f111 : l 111 = (.bool ((decide (o94 = y39.1)) && (y203.getD default))) := d0 rfl
        exact gstep_plain rfl rfl rfl (ph_val (val_assign f111))
      intro v207 h208
      intro v209 h210
      intro v211 h212
      intro v213 h214
      intro v215 h216
      intro v217 h218
      intro v219 h220
      obtain rfl := Eq.symm h208
      obtain rfl := Eq.symm h210
      obtain rfl := Eq.symm h212
      obtain rfl := Eq.symm h214
      obtain rfl := Eq.symm h218
      obtain rfl := Eq.symm h220
      refine wo_nil ?_
      refine wg_ret ?_
      obtain rfl := Option.some.inj hd0
      refine body_end (D := []) (J := []) (rs := [.tmp 6]) (vs := [(.bool ((decide (o94 = y39.1)) && (y203.getD default)))]) ((((((((le4.trans le8).trans le16).trans le28).trans le36).trans le44).trans le52).trans le97).trans le206) rfl rfl ⟨rfl, trivial⟩ ?_
      exact ⟨rfl, rfl⟩
theorem ar60 : ArrOk Try.prog 60 2 1 := arrOk_of (e := 48) Try.underlying60 (fun w => by kernel_rfl)
theorem c_gauntletref01_Join {N : Nat} {R : RH} {a : (List Int)} {v_a : Value} (h_a : VRep (tSl false (tInt .i64)) R v_a a) {b : (List Int)} {v_b : Value} (h_b : VRep (tSl false (tInt .i64)) R v_b b) {r : (List Int)} (hd0 : gauntletref01_Join N a b = some r) : CallP Try.prog 27 #[v_a, v_b] R (fun v R' => VRep (tSl false (tInt .i64)) R' v r) := by
  refine callP_of_wg (args := [v_a, v_b]) Try.func27 rfl rfl fun A => ?_
  rw [gauntletref01_Join] at hd0
  refine wg_seq ?_
  refine wg_region ?_
  refine wo_v rfl (val_assign (v := (.slice none 0 0)) rfl) ?_
  refine wo_nil ?_
  refine wg_seq ?_
  refine wg_region ?_
  refine wo_v rfl (val_assign (v := (.slice none 0 0)) rfl) ?_
  refine wo_nil ?_
  replace hd0 := bd_some hd0; obtain ⟨o1, hd1, hd0⟩ := hd0
  refine wg_meet (γ := (List Int) × Value × Frag) true [6, 8, 9, 10, 11, 14, 15, 16, 17, 18, 19, 20, 5, 12, 13] (fun g => [(5, g.2.1)]) (fun g => [g.2.2] ++ A) (fun g R => o1 = g.1 ∧ ORep (tInt .i64) R g.2.2 g.2.1 g.1 ∧ True) ?_ ?_
  ·
    refine wg_seq ?_
    refine wg_region ?_
    refine wo_v rfl (val_assign (v := (.int .i64 0)) rfl) ?_
    refine wo_nil ?_
    refine wg_block ?_
    refine wg_emp ?_
    refine wg_loopS (γ := Nat × (List Int) × Int × Value × Frag) true [8, 9, 10, 11, 14, 15, 16, 17, 18, 19, 20, 5, 12, 13, 6] (fun g => [(5, g.2.2.2.1), (6, (.int .i64 g.2.2.1))]) (fun g => [g.2.2.2.2] ++ A) (fun g R => gauntletref01_Join_L1 N a g.1 g.2.1 g.2.2.1 = some o1 ∧ ORep (tInt .i64) R g.2.2.2.2 g.2.2.2.1 g.2.1 ∧ True) (fun g => g.1) (N, ([] : List Int), 0, (.slice none 0 0), emp) ⟨rfl, rfl, trivial⟩ ⟨[], List.Perm.refl _⟩ ⟨hd1, (orep_emp (T := (tInt .i64))), trivial⟩ (fun _ => rfl) ?_
    clear hd1
    rintro ⟨F9, x10, x11, v14, f15⟩ j38 D39 R12 hD40 le13 ⟨hd1, h16, _⟩
    obtain rfl := hD40 rfl
    rcases F9 with _ | F9
    · exact none_elim hd1
    replace hd1 : gauntletref01_Join_L1 N a (F9 + 1) x10 x11 = some o1 := hd1; rw [gauntletref01_Join_L1] at hd1
    refine wg_seq ?_
    refine wg_seq ?_
    refine wg_region ?_
    refine wo_v rfl (val_move (v := (.int .i64 x11)) rfl) ?_
    refine wo_v rfl (val_move (v := v_a) rfl) ?_
    refine wo_v rfl (val_lenR rfl Try.underlying49 rfl (sl_s (h_a.mono le13))) ?_
    refine wo_v rfl (val_lss rfl rfl) ?_
    refine wo_nil ?_
    refine wg_cond rfl (fun e18 => ?_) (fun e18 => ?_)
    · replace hd1 := sel_t e18 hd1; clear e18
      refine wg_skip ?_
      refine wg_seq ?_
      refine wg_block ?_
      refine wg_region ?_
      refine wo_v rfl (val_move (v := v14) rfl) ?_
      refine wo_v rfl (val_move (v := v_a) rfl) ?_
      refine wo_v rfl (val_move (v := (.int .i64 x11)) rfl) ?_
      have g19 := (gd_some hd1).1; replace hd1 := (gd_some hd1).2
      refine wo_indexR (i := x11.toNat) rfl sl49 rfl (sl_s (h_a.mono le13)) (idx_nonneg rfl g19.1) (okI_lt g19) fun v20 h21 => ?_
      refine wo_loadR rfl ty3 rfl h21 fun v22 h23 => ?_
      obtain rfl := vrep_int.1 h23
      refine wo_lit (T := (tInt .i64)) (X := ([(ix a x11)] : List Int)) (ps := [(0, (.int .i64 (ix a x11)))]) (css := [[(.int .i64 (ix a x11))]]) rfl Try.underlying49 zo3 rfl rfl (lit_reps ⟨rfl, trivial⟩) rfl rfl (by decide) fun v24 f25 cap26 h27 => ?_
      refine wo_freeze (i := 0) rfl h27 fun R29 le30 h31 => ?_
      have h32 : VRep (tSl true (tInt .i64)) R29 v24 ([(ix a x11)] : List Int) := (sl_t h31 cap26)
      have g33 := (gd_some hd1).1; replace hd1 := (gd_some hd1).2
      refine wo_append (i := 0) (X := x10) (Y := ([(ix a x11)] : List Int)) rfl Try.underlying49 zo3 rfl rfl rfl (h16.mono le30) (sl_s (Sub.v (B := (tSl false (tInt .i64))) (sub_sl Sub.refl (fun _ => rfl)) h32)) g33.1 g33.2 fun v34 f35 h36 => ?_
      refine wo_v rfl (val_assign (v := v34) rfl) ?_
      refine wo_nil ?_
      refine wg_region ?_
      refine wo_v rfl (val_move (v := (.int .i64 x11)) rfl) ?_
      have g37 := (gd_some hd1).1; replace hd1 := (gd_some hd1).2
      refine wo_v rfl (val_add rfl rfl g37) ?_
      refine wo_v rfl (val_assign (v := (.int .i64 (x11 + 1))) rfl) ?_
      refine wo_nil ?_
      exact ⟨(fun _ => rfl), le30, (by repeat (first | exact off_self | refine off_upd rfl ?_ | refine off_setl rfl ?_ | refine off_mask_sub rfl ?_)), (F9, (x10 ++ ([(ix a x11)] : List Int)), x11 + 1, v34, f35), Nat.lt_succ_self _, ⟨rfl, rfl, trivial⟩, ⟨[], List.Perm.refl _⟩, hd1, h36, trivial⟩
    · replace hd1 := sel_f e18 hd1; clear e18
      refine wg_exit ?_
      exact ⟨(fun _ => rfl), le13, (by repeat (first | exact off_self | refine off_upd rfl ?_ | refine off_setl rfl ?_ | refine off_mask_sub rfl ?_)), (x10, v14, f15), ⟨rfl, trivial⟩, ⟨[], List.Perm.refl _⟩, (Option.some.inj hd1).symm, h16, trivial⟩
  ·
    rintro ⟨o1, v4, f5⟩ j41 D42 R2 hD43 le3 ⟨rfl, h6, _⟩
    obtain rfl := hD43 rfl
    replace hd0 := bd_some hd0; obtain ⟨o44, hd1, hd0⟩ := hd0
    refine wg_meet (γ := (List Int) × Value × Frag) true [7, 21, 22, 23, 24, 27, 28, 29, 30, 31, 32, 33, 5, 25, 26] (fun g => [(5, g.2.1)]) (fun g => [g.2.2] ++ A) (fun g R => o44 = g.1 ∧ ORep (tInt .i64) R g.2.2 g.2.1 g.1 ∧ True) ?_ ?_
    ·
      refine wg_seq ?_
      refine wg_region ?_
      refine wo_v rfl (val_assign (v := (.int .i64 0)) rfl) ?_
      refine wo_nil ?_
      refine wg_block ?_
      refine wg_loopS (γ := Nat × Int × (List Int) × Value × Frag) true [21, 22, 23, 24, 27, 28, 29, 30, 31, 32, 33, 5, 25, 26, 7] (fun g => [(5, g.2.2.2.1), (7, (.int .i64 g.2.1))]) (fun g => [g.2.2.2.2] ++ A) (fun g R => gauntletref01_Join_L2 N b g.1 g.2.1 g.2.2.1 = some o44 ∧ ORep (tInt .i64) R g.2.2.2.2 g.2.2.2.1 g.2.2.1 ∧ True) (fun g => g.1) (N, 0, o1, v4, f5) ⟨rfl, rfl, trivial⟩ ⟨[], List.Perm.refl _⟩ ⟨hd1, h6, trivial⟩ (fun _ => rfl) ?_
      clear hd1
      rintro ⟨F50, x51, x52, v55, f56⟩ j78 D79 R53 hD80 le54 ⟨hd1, h57, _⟩
      obtain rfl := hD80 rfl
      rcases F50 with _ | F50
      · exact none_elim hd1
      replace hd1 : gauntletref01_Join_L2 N b (F50 + 1) x51 x52 = some o44 := hd1; rw [gauntletref01_Join_L2] at hd1
      refine wg_seq ?_
      refine wg_seq ?_
      refine wg_region ?_
      refine wo_v rfl (val_move (v := (.int .i64 x51)) rfl) ?_
      refine wo_v rfl (val_move (v := v_b) rfl) ?_
      refine wo_v rfl (val_lenR rfl Try.underlying49 rfl (sl_s (h_b.mono (le3.trans le54)))) ?_
      refine wo_v rfl (val_lss rfl rfl) ?_
      refine wo_nil ?_
      refine wg_cond rfl (fun e58 => ?_) (fun e58 => ?_)
      · replace hd1 := sel_t e58 hd1; clear e58
        refine wg_skip ?_
        refine wg_seq ?_
        refine wg_block ?_
        refine wg_region ?_
        refine wo_v rfl (val_move (v := v55) rfl) ?_
        refine wo_v rfl (val_move (v := v_b) rfl) ?_
        refine wo_v rfl (val_move (v := (.int .i64 x51)) rfl) ?_
        have g59 := (gd_some hd1).1; replace hd1 := (gd_some hd1).2
        refine wo_indexR (i := x51.toNat) rfl sl49 rfl (sl_s (h_b.mono (le3.trans le54))) (idx_nonneg rfl g59.1) (okI_lt g59) fun v60 h61 => ?_
        refine wo_loadR rfl ty3 rfl h61 fun v62 h63 => ?_
        obtain rfl := vrep_int.1 h63
        refine wo_lit (T := (tInt .i64)) (X := ([(ix b x51)] : List Int)) (ps := [(0, (.int .i64 (ix b x51)))]) (css := [[(.int .i64 (ix b x51))]]) rfl Try.underlying49 zo3 rfl rfl (lit_reps ⟨rfl, trivial⟩) rfl rfl (by decide) fun v64 f65 cap66 h67 => ?_
        refine wo_freeze (i := 0) rfl h67 fun R69 le70 h71 => ?_
        have h72 : VRep (tSl true (tInt .i64)) R69 v64 ([(ix b x51)] : List Int) := (sl_t h71 cap66)
        have g73 := (gd_some hd1).1; replace hd1 := (gd_some hd1).2
        refine wo_append (i := 0) (X := x52) (Y := ([(ix b x51)] : List Int)) rfl Try.underlying49 zo3 rfl rfl rfl (h57.mono le70) (sl_s (Sub.v (B := (tSl false (tInt .i64))) (sub_sl Sub.refl (fun _ => rfl)) h72)) g73.1 g73.2 fun v74 f75 h76 => ?_
        refine wo_v rfl (val_assign (v := v74) rfl) ?_
        refine wo_nil ?_
        refine wg_region ?_
        refine wo_v rfl (val_move (v := (.int .i64 x51)) rfl) ?_
        have g77 := (gd_some hd1).1; replace hd1 := (gd_some hd1).2
        refine wo_v rfl (val_add rfl rfl g77) ?_
        refine wo_v rfl (val_assign (v := (.int .i64 (x51 + 1))) rfl) ?_
        refine wo_nil ?_
        exact ⟨(fun _ => rfl), le70, (by repeat (first | exact off_self | refine off_upd rfl ?_ | refine off_setl rfl ?_ | refine off_mask_sub rfl ?_)), (F50, x51 + 1, (x52 ++ ([(ix b x51)] : List Int)), v74, f75), Nat.lt_succ_self _, ⟨rfl, rfl, trivial⟩, ⟨[], List.Perm.refl _⟩, hd1, h76, trivial⟩
      · replace hd1 := sel_f e58 hd1; clear e58
        refine wg_exit ?_
        exact ⟨(fun _ => rfl), le54, (by repeat (first | exact off_self | refine off_upd rfl ?_ | refine off_setl rfl ?_ | refine off_mask_sub rfl ?_)), (x52, v55, f56), ⟨rfl, trivial⟩, ⟨[], List.Perm.refl _⟩, (Option.some.inj hd1).symm, h57, trivial⟩
    ·
      rintro ⟨o44, v47, f48⟩ j81 D82 R45 hD83 le46 ⟨rfl, h49, _⟩
      obtain rfl := hD83 rfl
      refine wg_seq ?_
      refine wg_region ?_
      refine wo_v rfl (val_move (v := v47) rfl) ?_
      refine wo_v rfl (val_assign (v := v47) rfl) ?_
      refine wo_nil ?_
      refine wg_freeze (i := 0) rfl h49 fun R84 le85 h86 => ?_
      have h87 : VRep (tSl false (tInt .i64)) R84 v47 o44 := (sl_f h86)
      refine wg_ret ?_
      obtain rfl := Option.some.inj hd0
      refine body_end (D := []) (J := []) (rs := [.tmp 4]) (vs := [v47]) ((le3.trans le46).trans le85) rfl rfl ⟨rfl, trivial⟩ ?_
      exact ⟨rfl, h87⟩
theorem en27 : Enters Try.prog 27 := enters_of Try.func27 rfl (by kernel_rfl)
theorem c_gauntletlaw04_MachinesSplit {N : Nat} {R : RH} {x : MDat} {v_x : Value} (h_x : VRep (kMDat false) R v_x x) {y : (WDat × WDat)} {v_y : Value} (h_y : VRep (kA2WDat false false) R v_y y) {from_ : Int} {r : Bool} (hd0 : gauntletlaw04_MachinesSplit N x y from_ = some r) : CallP Try.prog 5 #[v_x, v_y, (.int .u8 from_)] R (fun v R' => v = (.bool r)) := by
  refine callP_of_wg (args := [v_x, v_y, (.int .u8 from_)]) Try.func5 rfl rfl fun A => ?_
  rw [gauntletlaw04_MachinesSplit] at hd0
  refine wg_seq ?_
  refine wg_region ?_
  refine wo_boxR (T := (kMDat false)) rfl rfl h_x fun v1 R3 le4 h2 => ?_
  refine wo_boxR (T := (kA2WDat false false)) rfl rfl (h_y.mono le4) fun v5 R7 le8 h6 => ?_
  refine wo_v rfl (val_assign (v := (.bool false)) rfl) ?_
  refine wo_nil ?_
  refine wg_seq ?_
  refine wg_region ?_
  refine wo_loadR rfl ty24 rfl (h2.mono le8) fun v9 h10 => ?_
  replace hd0 := bd_some hd0; obtain ⟨y11, c12, hd0⟩ := hd0
  refine wo_callP rfl en10 rfl (c_gauntletlaw04_M_Of h10 c12) fun v13 R15 le16 h14 => ?_
  refine wo_alloc rfl za27 fun b17 => ?_
  obtain ⟨v19, rfl, h20⟩ := cases_Mach h14
  refine wo_store (i := 0) (vs := [(.int .i64 y11.inputs), (.int .i64 y11.outputs), v19]) sz27 rfl rfl rfl rfl rfl rfl (one_cons rfl (one_cons rfl (one_cons (sl_one h20) one_nil))) ?_
  refine wo_nil ?_
  refine wg_seq ?_
  replace hd0 := bd_some hd0; obtain ⟨y21, c22, hd0⟩ := hd0
  replace hd0 := bd_some hd0; obtain ⟨y23, c24, hd0⟩ := hd0
  refine wg_drawn 12 [] [phP (kWDat false) y.1, phR (kWDat false) y.1, phX (.pointer (some ⟨b17, 0, none⟩)), phX (.int .i64 y11.inputs), phR (tSl false (tInt .i64)) y21, phP (kWDat false) y.2, phR (kWDat false) y.2, phX (.pointer (some ⟨b17, 0, none⟩)), phX (.int .i64 y11.inputs), phR (tSl false (tInt .i64)) y23, phR (tSl false (tInt .i64)) y21, phR (tSl false (tInt .i64)) y23] mixed (by kernel_rfl) (monoOk_of ⟨mono_p, mono_r, mono_x, mono_x, mono_r, mono_p, mono_r, mono_x, mono_x, mono_r, mono_r, mono_r, trivial⟩) ⟨?_, ?_, ?_, ?_, ?_, ?_, ?_, ?_, ?_, ?_, ?_, ?_, trivial⟩ fun R25 le26 => ?_
  · intro l R0q hle ha hd
    have a4 : l 4 = v5 := ha 4 rfl
    exact gstep_plain rfl rfl rfl (ph_indexAR (i := 0) ar60 pt_A2WDat0 a4 ((h6.mono le16).mono hle) rfl (by decide))
  · intro l R1q hle ha hd
    obtain ⟨d0, _⟩ := hd
    have f26 : phP (kWDat false) y.1 (l 26) R1q := d0 rfl
    exact gstep_plain rfl rfl rfl (ph_loadR ty48 rfl f26)
  · intro l R2q hle ha hd
    have a7 : l 7 = (.pointer (some ⟨b17, 0, none⟩)) := ha 7 rfl
    exact gstep_plain rfl rfl rfl (ph_val (val_fieldB fd27_0 a7))
  · intro l R3q hle ha hd
    obtain ⟨d0, _⟩ := hd
    have f28 : l 28 = (.pointer (some ⟨b17, 0, none⟩)) := d0 rfl
    exact gstep_plain rfl rfl rfl (ph_val (val_loadB (i := 0) ag3 f28 rfl rfl))
  · intro l R4q hle ha hd
    obtain ⟨d0, d1, _⟩ := hd
    have f27 : phR (kWDat false) y.1 (l 27) R4q := d0 rfl
    have f29 : l 29 = (.int .i64 y11.inputs) := d1 rfl
    exact gstep_plain rfl rfl rfl (ph_callP en20 (by simp only [List.map, ev, f29] <;> rfl) (c_gauntletlaw01_W_Of f27 c22) (fun _ _ h => h))
  · intro l R5q hle ha hd
    have a4 : l 4 = v5 := ha 4 rfl
    exact gstep_plain rfl rfl rfl (ph_indexAR (i := 1) ar60 pt_A2WDat1 a4 ((h6.mono le16).mono hle) rfl (by decide))
  · intro l R6q hle ha hd
    obtain ⟨d0, _⟩ := hd
    have f31 : phP (kWDat false) y.2 (l 31) R6q := d0 rfl
    exact gstep_plain rfl rfl rfl (ph_loadR ty48 rfl f31)
  · intro l R7q hle ha hd
    have a7 : l 7 = (.pointer (some ⟨b17, 0, none⟩)) := ha 7 rfl
    exact gstep_plain rfl rfl rfl (ph_val (val_fieldB fd27_0 a7))
  · intro l R8q hle ha hd
    obtain ⟨d0, _⟩ := hd
    have f33 : l 33 = (.pointer (some ⟨b17, 0, none⟩)) := d0 rfl
    exact gstep_plain rfl rfl rfl (ph_val (val_loadB (i := 0) ag3 f33 rfl rfl))
  · intro l R9q hle ha hd
    obtain ⟨d0, d1, d2, _⟩ := hd
    have f32 : phR (kWDat false) y.2 (l 32) R9q := d0 rfl
    have f34 : l 34 = (.int .i64 y11.inputs) := d1 rfl
    exact gstep_plain rfl rfl rfl (ph_callP en20 (by simp only [List.map, ev, f34] <;> rfl) (c_gauntletlaw01_W_Of f32 c24) (fun _ _ h => h))
  · intro l R10q hle ha hd
    obtain ⟨d0, d1, d2, d3, d4, d5, d6, d7, d8, d9, d10, d11, _⟩ := hd
    have f30 : phR (tSl false (tInt .i64)) y21 (l 30) R10q := d0 rfl
    exact gstep_plain rfl rfl rfl (ph_rep (val_assign rfl) f30)
  · intro l R11q hle ha hd
    obtain ⟨d0, d1, d2, d3, d4, d5, d6, d7, d8, d9, d10, d11, d12, _⟩ := hd
    have f35 : phR (tSl false (tInt .i64)) y23 (l 35) R11q := d0 rfl
    exact gstep_plain rfl rfl rfl (ph_rep (val_assign rfl) f35)
  intro v27 h28
  intro v29 h30
  intro v31 h32
  intro v33 h34
  intro v35 h36
  intro v37 h38
  intro v39 h40
  intro v41 h42
  intro v43 h44
  intro v45 h46
  intro v47 h48
  intro v49 h50
  obtain rfl := Eq.symm h32
  obtain rfl := Eq.symm h34
  obtain rfl := Eq.symm h42
  obtain rfl := Eq.symm h44
  refine wo_nil ?_
  refine wg_seq ?_
  refine wg_region ?_
  refine wo_v rfl (val_move (v := (.int .u8 from_)) rfl) ?_
  have g51 := (gd_some hd0).1; replace hd0 := (gd_some hd0).2
  refine wo_v rfl (val_conv64 Try.underlying5 Try.underlying3 rfl g51) ?_
  refine wo_v rfl (val_fieldB fd27_2 rfl) ?_
  refine wo_v rfl (val_loadB (i := 0) ag25 rfl rfl rfl) ?_
  refine wo_v rfl (val_lenR rfl Try.underlying25 rfl (sl_s (h20.mono le26))) ?_
  have g52 := (gd_some hd0).1; replace hd0 := (gd_some hd0).2
  refine wo_v rfl (val_rem0 rfl rfl g52) ?_
  refine wo_v rfl (val_assign (v := (.int .i64 (from_ % (↑y11.rows.length : Int)))) rfl) ?_
  refine wo_nil ?_
  refine wg_seq ?_
  replace hd0 := bd_some hd0; obtain ⟨y53, c54, hd0⟩ := hd0
  replace hd0 := bd_some hd0; obtain ⟨y55, c56, hd0⟩ := hd0
  refine wg_drawn 11 [] [phX (.agg #[(.int .i64 y11.inputs), (.int .i64 y11.outputs), v19]), phX (.int .i64 (from_ % (↑y11.rows.length : Int))), phX v47, phX v49, phR (tSl false (tInt .i64)) y53, (fun v R => ∃ u0, v = .tuple #[u0, (.int .i64 y55.2)] ∧ VRep (tSl true (tInt .i64)) R u0 y55.1), (fun v R => ∃ u0, v = .tuple #[u0, (.int .i64 y55.2)] ∧ VRep (tSl true (tInt .i64)) R u0 y55.1), phR (tSl true (tInt .i64)) y55.1, phX (.int .i64 y55.2), phR (tSl true (tInt .i64)) y55.1, phX (.int .i64 y55.2)] mixed (by kernel_rfl) (monoOk_of ⟨mono_x, mono_x, mono_x, mono_x, mono_r, (fun _ _ _ le ⟨u0, e, k0⟩ => ⟨u0, e, k0.mono le⟩), (fun _ _ _ le ⟨u0, e, k0⟩ => ⟨u0, e, k0.mono le⟩), mono_r, mono_x, mono_r, mono_x, trivial⟩) ⟨?_, ?_, ?_, ?_, ?_, ?_, ?_, ?_, ?_, ?_, ?_, trivial⟩ fun R57 le58 => ?_
  · intro l R0q hle ha hd
    have a7 : l 7 = (.pointer (some ⟨b17, 0, none⟩)) := ha 7 rfl
    exact gstep_plain rfl rfl rfl (ph_val (val_loadBA (i := 0) ag27 sz27 a7 rfl rfl rfl))
  · intro l R1q hle ha hd
    have a10 : l 10 = (.int .i64 (from_ % (↑y11.rows.length : Int))) := ha 10 rfl
    exact gstep_plain rfl rfl rfl (ph_val (val_move a10))
  · intro l R2q hle ha hd
    have a8 : l 8 = v47 := ha 8 rfl
    exact gstep_plain rfl rfl rfl (ph_val (val_move a8))
  · intro l R3q hle ha hd
    have a9 : l 9 = v49 := ha 9 rfl
    exact gstep_plain rfl rfl rfl (ph_val (val_move a9))
  · intro l R4q hle ha hd
    obtain ⟨d0, d1, _⟩ := hd
    have f45 : l 45 = v47 := d0 rfl
    have f46 : l 46 = v49 := d1 rfl
    exact gstep_plain rfl rfl rfl (ph_callP en27 (by simp only [List.map, ev, f45, f46] <;> rfl) (c_gauntletref01_Join (h48.mono hle) (h50.mono hle) c54) (fun _ _ h => h))
  · intro l R5q hle ha hd
    obtain ⟨d0, d1, d2, d3, _⟩ := hd
    have f43 : l 43 = (.agg #[(.int .i64 y11.inputs), (.int .i64 y11.outputs), v19]) := d0 rfl
    have f44 : l 44 = (.int .i64 (from_ % (↑y11.rows.length : Int))) := d1 rfl
    have f47 : phR (tSl false (tInt .i64)) y53 (l 47) R5q := d2 rfl
    exact gstep_plain rfl rfl rfl (ph_callP en21 (by simp only [List.map, ev, f43, f44] <;> rfl) (c_machines_Run (⟨_, ⟨_, _, rfl, rfl, ⟨_, _, rfl, rfl, (rep_one rfl ((h20.mono le26).mono hle))⟩⟩, rfl⟩ : VRep (kMach false false) _ _ (⟨y11.inputs, y11.outputs, y11.rows⟩ : Mach)) f47 c56) (fun _ _ h => h))
  · intro l R6q hle ha hd
    obtain ⟨d0, _⟩ := hd
    have f48 : (fun v R => ∃ u0, v = .tuple #[u0, (.int .i64 y55.2)] ∧ VRep (tSl true (tInt .i64)) R u0 y55.1) (l 48) R6q := d0 rfl
    exact gstep_plain rfl rfl rfl (Val.phi (val_move rfl) f48)
  · intro l R7q hle ha hd
    obtain ⟨d0, _⟩ := hd
    have f42 : (fun v R => ∃ u0, v = .tuple #[u0, (.int .i64 y55.2)] ∧ VRep (tSl true (tInt .i64)) R u0 y55.1) (l 42) R7q := d0 rfl
    obtain ⟨u0, ht, hu0⟩ := f42
    exact gstep_plain rfl rfl rfl (ph_rep (val_extract ht rfl) hu0)
  · intro l R8q hle ha hd
    obtain ⟨d0, d1, _⟩ := hd
    have f42 : (fun v R => ∃ u0, v = .tuple #[u0, (.int .i64 y55.2)] ∧ VRep (tSl true (tInt .i64)) R u0 y55.1) (l 42) R8q := d0 rfl
    obtain ⟨u0, ht, hu0⟩ := f42
    exact gstep_plain rfl rfl rfl (ph_val (val_extract ht rfl))
  · intro l R9q hle ha hd
    obtain ⟨d0, d1, d2, d3, d4, d5, d6, d7, d8, d9, d10, _⟩ := hd
    have f49 : phR (tSl true (tInt .i64)) y55.1 (l 49) R9q := d0 rfl
    exact gstep_plain rfl rfl rfl (ph_rep (val_assign rfl) f49)
  · intro l R10q hle ha hd
    obtain ⟨d0, d1, d2, d3, d4, d5, d6, d7, d8, d9, d10, d11, _⟩ := hd
    have f50 : l 50 = (.int .i64 y55.2) := d0 rfl
    exact gstep_plain rfl rfl rfl (ph_val (val_assign f50))
  intro v59 h60
  intro v61 h62
  intro v63 h64
  intro v65 h66
  intro v67 h68
  intro v69 h70
  intro v71 h72
  intro v73 h74
  intro v75 h76
  intro v77 h78
  intro v79 h80
  obtain rfl := Eq.symm h60
  obtain rfl := Eq.symm h62
  obtain rfl := Eq.symm h64
  obtain rfl := Eq.symm h66
  obtain ⟨v81, rfl, h82⟩ := h70
  obtain ⟨v83, rfl, h84⟩ := h72
  obtain rfl := Eq.symm h76
  obtain rfl := Eq.symm h80
  refine wo_nil ?_
  refine wg_seq ?_
  refine wg_region ?_
  refine wo_v rfl (val_loadBA (i := 0) ag27 sz27 rfl rfl rfl rfl) ?_
  refine wo_v rfl (val_move (v := (.int .i64 (from_ % (↑y11.rows.length : Int)))) rfl) ?_
  refine wo_v rfl (val_move (v := v47) rfl) ?_
  replace hd0 := bd_some hd0; obtain ⟨y85, c86, hd0⟩ := hd0
  refine wo_callP rfl en21 rfl (c_machines_Run (⟨_, ⟨_, _, rfl, rfl, ⟨_, _, rfl, rfl, (rep_one rfl (h20.mono (le26.trans le58)))⟩⟩, rfl⟩ : VRep (kMach false false) _ _ (⟨y11.inputs, y11.outputs, y11.rows⟩ : Mach)) (h48.mono le58) c86) fun v87 R89 le90 h88 => ?_
  obtain ⟨v91, rfl, h92⟩ := h88
  refine wo_v rfl (val_move (v := (.tuple #[v91, (.int .i64 y85.2)])) rfl) ?_
  refine wo_v rfl (val_extract rfl rfl) ?_
  refine wo_v rfl (val_extract rfl rfl) ?_
  refine wo_v rfl (val_assign (v := v91) rfl) ?_
  refine wo_v rfl (val_assign (v := (.int .i64 y85.2)) rfl) ?_
  refine wo_nil ?_
  refine wg_seq ?_
  refine wg_region ?_
  refine wo_v rfl (val_loadBA (i := 0) ag27 sz27 rfl rfl rfl rfl) ?_
  refine wo_v rfl (val_move (v := (.int .i64 (from_ % (↑y11.rows.length : Int)))) rfl) ?_
  refine wo_v rfl (val_move (v := v47) rfl) ?_
  replace hd0 := bd_some hd0; obtain ⟨y93, c94, hd0⟩ := hd0
  refine wo_callP rfl en22 rfl (c_machines_After (⟨_, ⟨_, _, rfl, rfl, ⟨_, _, rfl, rfl, (rep_one rfl (h20.mono ((le26.trans le58).trans le90)))⟩⟩, rfl⟩ : VRep (kMach false false) _ _ (⟨y11.inputs, y11.outputs, y11.rows⟩ : Mach)) (h48.mono (le58.trans le90)) c94) fun v95 R97 le98 h96 => ?_
  obtain rfl := h96
  refine wo_v rfl (val_move (v := (.tuple #[(.int .i64 y93.1), (.int .i64 y93.2)])) rfl) ?_
  refine wo_v rfl (val_extract rfl rfl) ?_
  refine wo_v rfl (val_extract rfl rfl) ?_
  refine wo_v rfl (val_assign (v := (.int .i64 y93.1)) rfl) ?_
  refine wo_v rfl (val_assign (v := (.int .i64 y93.2)) rfl) ?_
  refine wo_nil ?_
  refine wg_seq ?_
  replace hd0 := bd_some hd0; obtain ⟨y99, c100, hd0⟩ := hd0
  replace hd0 := bd_some hd0; obtain ⟨y101, c102, hd0⟩ := hd0
  refine wg_drawn 11 [] [phX (.agg #[(.int .i64 y11.inputs), (.int .i64 y11.outputs), v19]), phX (.int .i64 (from_ % (↑y11.rows.length : Int))), phX v47, phX v49, phR (tSl false (tInt .i64)) y99, phX (.tuple #[(.int .i64 y101.1), (.int .i64 y101.2)]), phX (.tuple #[(.int .i64 y101.1), (.int .i64 y101.2)]), phX (.int .i64 y101.1), phX (.int .i64 y101.2), phX (.int .i64 y101.1), phX (.int .i64 y101.2)] mixed (by kernel_rfl) (monoOk_of ⟨mono_x, mono_x, mono_x, mono_x, mono_r, mono_x, mono_x, mono_x, mono_x, mono_x, mono_x, trivial⟩) ⟨?_, ?_, ?_, ?_, ?_, ?_, ?_, ?_, ?_, ?_, ?_, trivial⟩ fun R103 le104 => ?_
  · intro l R0q hle ha hd
    have a7 : l 7 = (.pointer (some ⟨b17, 0, none⟩)) := ha 7 rfl
    exact gstep_plain rfl rfl rfl (ph_val (val_loadBA (i := 0) ag27 sz27 a7 rfl rfl rfl))
  · intro l R1q hle ha hd
    have a10 : l 10 = (.int .i64 (from_ % (↑y11.rows.length : Int))) := ha 10 rfl
    exact gstep_plain rfl rfl rfl (ph_val (val_move a10))
  · intro l R2q hle ha hd
    have a8 : l 8 = v47 := ha 8 rfl
    exact gstep_plain rfl rfl rfl (ph_val (val_move a8))
  · intro l R3q hle ha hd
    have a9 : l 9 = v49 := ha 9 rfl
    exact gstep_plain rfl rfl rfl (ph_val (val_move a9))
  · intro l R4q hle ha hd
    obtain ⟨d0, d1, _⟩ := hd
    have f68 : l 68 = v47 := d0 rfl
    have f69 : l 69 = v49 := d1 rfl
    exact gstep_plain rfl rfl rfl (ph_callP en27 (by simp only [List.map, ev, f68, f69] <;> rfl) (c_gauntletref01_Join ((h48.mono ((le58.trans le90).trans le98)).mono hle) ((h50.mono ((le58.trans le90).trans le98)).mono hle) c100) (fun _ _ h => h))
  · intro l R5q hle ha hd
    obtain ⟨d0, d1, d2, d3, _⟩ := hd
    have f66 : l 66 = (.agg #[(.int .i64 y11.inputs), (.int .i64 y11.outputs), v19]) := d0 rfl
    have f67 : l 67 = (.int .i64 (from_ % (↑y11.rows.length : Int))) := d1 rfl
    have f70 : phR (tSl false (tInt .i64)) y99 (l 70) R5q := d2 rfl
    exact gstep_plain rfl rfl rfl (ph_callP en22 (by simp only [List.map, ev, f66, f67] <;> rfl) (c_machines_After (⟨_, ⟨_, _, rfl, rfl, ⟨_, _, rfl, rfl, (rep_one rfl ((h20.mono (((le26.trans le58).trans le90).trans le98)).mono hle))⟩⟩, rfl⟩ : VRep (kMach false false) _ _ (⟨y11.inputs, y11.outputs, y11.rows⟩ : Mach)) f70 c102) (fun _ _ h => h))
  · intro l R6q hle ha hd
    obtain ⟨d0, _⟩ := hd
    have f71 : l 71 = (.tuple #[(.int .i64 y101.1), (.int .i64 y101.2)]) := d0 rfl
    exact gstep_plain rfl rfl rfl (ph_val (val_move f71))
  · intro l R7q hle ha hd
    obtain ⟨d0, _⟩ := hd
    have f65 : l 65 = (.tuple #[(.int .i64 y101.1), (.int .i64 y101.2)]) := d0 rfl
    have ht := f65
    exact gstep_plain rfl rfl rfl (ph_val (val_extract ht rfl))
  · intro l R8q hle ha hd
    obtain ⟨d0, d1, _⟩ := hd
    have f65 : l 65 = (.tuple #[(.int .i64 y101.1), (.int .i64 y101.2)]) := d0 rfl
    have ht := f65
    exact gstep_plain rfl rfl rfl (ph_val (val_extract ht rfl))
  · intro l R9q hle ha hd
    obtain ⟨d0, d1, d2, d3, d4, d5, d6, d7, d8, d9, d10, _⟩ := hd
    have f72 : l 72 = (.int .i64 y101.1) := d0 rfl
    exact gstep_plain rfl rfl rfl (ph_val (val_assign f72))
  · intro l R10q hle ha hd
    obtain ⟨d0, d1, d2, d3, d4, d5, d6, d7, d8, d9, d10, d11, _⟩ := hd
    have f73 : l 73 = (.int .i64 y101.2) := d0 rfl
    exact gstep_plain rfl rfl rfl (ph_val (val_assign f73))
  intro v105 h106
  intro v107 h108
  intro v109 h110
  intro v111 h112
  intro v113 h114
  intro v115 h116
  intro v117 h118
  intro v119 h120
  intro v121 h122
  intro v123 h124
  intro v125 h126
  obtain rfl := Eq.symm h106
  obtain rfl := Eq.symm h108
  obtain rfl := Eq.symm h110
  obtain rfl := Eq.symm h112
  obtain rfl := Eq.symm h116
  obtain rfl := Eq.symm h118
  obtain rfl := Eq.symm h120
  obtain rfl := Eq.symm h122
  obtain rfl := Eq.symm h124
  obtain rfl := Eq.symm h126
  refine wo_nil ?_
  refine wg_seq ?_
  refine wg_seq ?_
  have g127 := (gd_some hd0).1; replace hd0 := (gd_some hd0).2
  have g128 := (gd_some hd0).1; replace hd0 := (gd_some hd0).2
  replace hd0 := bd_some hd0; obtain ⟨y129, c130, hd0⟩ := hd0
  refine wg_guarded 33 [] [phX (.int .i64 y55.2), phX (.bool (decide (y55.2 ≠ 0))), phX (.bool (decide (y55.2 ≠ 0))), phG (true && ((decide (y55.2 ≠ 0)) == false)) (phX (.int .i64 y85.2)), phG (true && ((decide (y55.2 ≠ 0)) == false)) (phX (.bool (decide (y85.2 ≠ 0)))), phX (.bool ((decide (y55.2 ≠ 0)) || (decide (y85.2 ≠ 0)))), phX (.bool ((decide (y55.2 ≠ 0)) || (decide (y85.2 ≠ 0)))), phG (true && (((decide (y55.2 ≠ 0)) || (decide (y85.2 ≠ 0))) == false)) (phX (.int .i64 y93.2)), phG (true && (((decide (y55.2 ≠ 0)) || (decide (y85.2 ≠ 0))) == false)) (phX (.bool (decide (y93.2 ≠ 0)))), phX (.bool (((decide (y55.2 ≠ 0)) || (decide (y85.2 ≠ 0))) || (decide (y93.2 ≠ 0)))), phX (.bool (((decide (y55.2 ≠ 0)) || (decide (y85.2 ≠ 0))) || (decide (y93.2 ≠ 0)))), phG (true && ((((decide (y55.2 ≠ 0)) || (decide (y85.2 ≠ 0))) || (decide (y93.2 ≠ 0))) == false)) (phX (.int .i64 y101.2)), phG (true && ((((decide (y55.2 ≠ 0)) || (decide (y85.2 ≠ 0))) || (decide (y93.2 ≠ 0))) == false)) (phX (.bool (decide (y101.2 ≠ 0)))), phX (.bool ((((decide (y55.2 ≠ 0)) || (decide (y85.2 ≠ 0))) || (decide (y93.2 ≠ 0))) || (decide (y101.2 ≠ 0)))), phX (.bool ((((decide (y55.2 ≠ 0)) || (decide (y85.2 ≠ 0))) || (decide (y93.2 ≠ 0))) || (decide (y101.2 ≠ 0)))), phG (true && (((((decide (y55.2 ≠ 0)) || (decide (y85.2 ≠ 0))) || (decide (y93.2 ≠ 0))) || (decide (y101.2 ≠ 0))) == false)) (phX v77), phG (true && (((((decide (y55.2 ≠ 0)) || (decide (y85.2 ≠ 0))) || (decide (y93.2 ≠ 0))) || (decide (y101.2 ≠ 0))) == false)) (phX (.int .i64 (↑y55.1.length : Int))), phG (true && (((((decide (y55.2 ≠ 0)) || (decide (y85.2 ≠ 0))) || (decide (y93.2 ≠ 0))) || (decide (y101.2 ≠ 0))) == false)) (phX v47), phG (true && (((((decide (y55.2 ≠ 0)) || (decide (y85.2 ≠ 0))) || (decide (y93.2 ≠ 0))) || (decide (y101.2 ≠ 0))) == false)) (phX (.int .i64 (↑y21.length : Int))), phG (true && (((((decide (y55.2 ≠ 0)) || (decide (y85.2 ≠ 0))) || (decide (y93.2 ≠ 0))) || (decide (y101.2 ≠ 0))) == false)) (phX v49), phG (true && (((((decide (y55.2 ≠ 0)) || (decide (y85.2 ≠ 0))) || (decide (y93.2 ≠ 0))) || (decide (y101.2 ≠ 0))) == false)) (phX (.int .i64 (↑y23.length : Int))), phG (true && (((((decide (y55.2 ≠ 0)) || (decide (y85.2 ≠ 0))) || (decide (y93.2 ≠ 0))) || (decide (y101.2 ≠ 0))) == false)) (phX (.int .i64 ((↑y21.length : Int) + (↑y23.length : Int)))), phG (true && (((((decide (y55.2 ≠ 0)) || (decide (y85.2 ≠ 0))) || (decide (y93.2 ≠ 0))) || (decide (y101.2 ≠ 0))) == false)) (phX (.bool (decide ((↑y55.1.length : Int) ≠ ((↑y21.length : Int) + (↑y23.length : Int)))))), phX (.bool (((((decide (y55.2 ≠ 0)) || (decide (y85.2 ≠ 0))) || (decide (y93.2 ≠ 0))) || (decide (y101.2 ≠ 0))) || (decide ((↑y55.1.length : Int) ≠ ((↑y21.length : Int) + (↑y23.length : Int)))))), phX (.bool (((((decide (y55.2 ≠ 0)) || (decide (y85.2 ≠ 0))) || (decide (y93.2 ≠ 0))) || (decide (y101.2 ≠ 0))) || (decide ((↑y55.1.length : Int) ≠ ((↑y21.length : Int) + (↑y23.length : Int)))))), phG (true && ((((((decide (y55.2 ≠ 0)) || (decide (y85.2 ≠ 0))) || (decide (y93.2 ≠ 0))) || (decide (y101.2 ≠ 0))) || (decide ((↑y55.1.length : Int) ≠ ((↑y21.length : Int) + (↑y23.length : Int))))) == false)) (phX v77), phG (true && ((((((decide (y55.2 ≠ 0)) || (decide (y85.2 ≠ 0))) || (decide (y93.2 ≠ 0))) || (decide (y101.2 ≠ 0))) || (decide ((↑y55.1.length : Int) ≠ ((↑y21.length : Int) + (↑y23.length : Int))))) == false)) (phX v47), phG (true && ((((((decide (y55.2 ≠ 0)) || (decide (y85.2 ≠ 0))) || (decide (y93.2 ≠ 0))) || (decide (y101.2 ≠ 0))) || (decide ((↑y55.1.length : Int) ≠ ((↑y21.length : Int) + (↑y23.length : Int))))) == false)) (phX (.int .i64 (↑y21.length : Int))), phG (true && ((((((decide (y55.2 ≠ 0)) || (decide (y85.2 ≠ 0))) || (decide (y93.2 ≠ 0))) || (decide (y101.2 ≠ 0))) || (decide ((↑y55.1.length : Int) ≠ ((↑y21.length : Int) + (↑y23.length : Int))))) == false)) (phR (tSl false (tInt .i64)) (cut y55.1 0 (↑y21.length : Int))), phG (true && ((((((decide (y55.2 ≠ 0)) || (decide (y85.2 ≠ 0))) || (decide (y93.2 ≠ 0))) || (decide (y101.2 ≠ 0))) || (decide ((↑y55.1.length : Int) ≠ ((↑y21.length : Int) + (↑y23.length : Int))))) == false)) (phX v91), phG (true && ((((((decide (y55.2 ≠ 0)) || (decide (y85.2 ≠ 0))) || (decide (y93.2 ≠ 0))) || (decide (y101.2 ≠ 0))) || (decide ((↑y55.1.length : Int) ≠ ((↑y21.length : Int) + (↑y23.length : Int))))) == false)) (phX (.bool (y129.getD default))), phG (true && ((((((decide (y55.2 ≠ 0)) || (decide (y85.2 ≠ 0))) || (decide (y93.2 ≠ 0))) || (decide (y101.2 ≠ 0))) || (decide ((↑y55.1.length : Int) ≠ ((↑y21.length : Int) + (↑y23.length : Int))))) == false)) (phX (.bool (!(y129.getD default)))), phX (.bool ((((((decide (y55.2 ≠ 0)) || (decide (y85.2 ≠ 0))) || (decide (y93.2 ≠ 0))) || (decide (y101.2 ≠ 0))) || (decide ((↑y55.1.length : Int) ≠ ((↑y21.length : Int) + (↑y23.length : Int))))) || (!(y129.getD default))))] (by kernel_rfl) (by kernel_rfl) (monoOk_of ⟨mono_x, mono_x, mono_x, (mono_g mono_x), (mono_g mono_x), mono_x, mono_x, (mono_g mono_x), (mono_g mono_x), mono_x, mono_x, (mono_g mono_x), (mono_g mono_x), mono_x, mono_x, (mono_g mono_x), (mono_g mono_x), (mono_g mono_x), (mono_g mono_x), (mono_g mono_x), (mono_g mono_x), (mono_g mono_x), (mono_g mono_x), mono_x, mono_x, (mono_g mono_x), (mono_g mono_x), (mono_g mono_x), (mono_g mono_r), (mono_g mono_x), (mono_g mono_x), (mono_g mono_x), mono_x, trivial⟩) ⟨?_, ?_, ?_, ?_, ?_, ?_, ?_, ?_, ?_, ?_, ?_, ?_, ?_, ?_, ?_, ?_, ?_, ?_, ?_, ?_, ?_, ?_, ?_, ?_, ?_, ?_, ?_, ?_, ?_, ?_, ?_, ?_, ?_, trivial⟩ fun R131 le132 => ?_
  · intro l R0q hle ha hd
    have a12 : l 12 = (.int .i64 y55.2) := ha 12 rfl
    exact gstep_plain rfl rfl rfl (ph_val (val_move a12))
  · intro l R1q hle ha hd
    obtain ⟨d0, _⟩ := hd
    have f74 : l 74 = (.int .i64 y55.2) := d0 rfl
    exact gstep_plain rfl rfl rfl (ph_val (val_neq f74 rfl))
  · intro l R2q hle ha hd
    obtain ⟨d0, _⟩ := hd
    have f75 : l 75 = (.bool (decide (y55.2 ≠ 0))) := d0 rfl
    exact gstep_plain rfl rfl rfl (ph_val (val_move f75))
  · intro l R3q hle ha hd
    obtain ⟨d0, _⟩ := hd
    have a14 : l 14 = (.int .i64 y85.2) := ha 14 rfl
    exact gstep_guard (Gj := true) (Bj := decide (y55.2 ≠ 0)) rfl rfl rfl (gtrue (d0 rfl)) rfl (fun hG hB => ph_val (val_move a14))
  · intro l R4q hle ha hd
    obtain ⟨d0, d1, _⟩ := hd
    have f77g : phG (true && ((decide (y55.2 ≠ 0)) == false)) (phX (.int .i64 y85.2)) (l 77) R4q := d0 rfl
    exact gstep_guard (Gj := true) (Bj := decide (y55.2 ≠ 0)) rfl rfl rfl (gtrue (d1 rfl)) rfl (fun hG hB => ph_val (val_neq (show l 77 = (.int .i64 y85.2) from f77g.1 (gandT rfl hB)) rfl))
  · intro l R5q hle ha hd
    obtain ⟨d0, d1, _⟩ := hd
    have f76 : l 76 = (.bool (decide (y55.2 ≠ 0))) := d0 rfl
    have f78g : phG (true && ((decide (y55.2 ≠ 0)) == false)) (phX (.bool (decide (y85.2 ≠ 0)))) (l 78) R5q := d1 rfl
    exact gstep_plain rfl rfl rfl (ph_val (val_or f76 rfl (fun hb => (show l 78 = (.bool (decide (y85.2 ≠ 0))) from f78g.1 (gandT rfl hb)))))
  · intro l R6q hle ha hd
    obtain ⟨d0, d1, _⟩ := hd
    have f79 : l 79 = (.bool ((decide (y55.2 ≠ 0)) || (decide (y85.2 ≠ 0)))) := d0 rfl
    exact gstep_plain rfl rfl rfl (ph_val (val_move f79))
  · intro l R7q hle ha hd
    obtain ⟨d0, _⟩ := hd
    have a16 : l 16 = (.int .i64 y93.2) := ha 16 rfl
    exact gstep_guard (Gj := true) (Bj := (decide (y55.2 ≠ 0)) || (decide (y85.2 ≠ 0))) rfl rfl rfl (gtrue (d0 rfl)) rfl (fun hG hB => ph_val (val_move a16))
  · intro l R8q hle ha hd
    obtain ⟨d0, d1, _⟩ := hd
    have f81g : phG (true && (((decide (y55.2 ≠ 0)) || (decide (y85.2 ≠ 0))) == false)) (phX (.int .i64 y93.2)) (l 81) R8q := d0 rfl
    exact gstep_guard (Gj := true) (Bj := (decide (y55.2 ≠ 0)) || (decide (y85.2 ≠ 0))) rfl rfl rfl (gtrue (d1 rfl)) rfl (fun hG hB => ph_val (val_neq (show l 81 = (.int .i64 y93.2) from f81g.1 (gandT rfl hB)) rfl))
  · intro l R9q hle ha hd
    obtain ⟨d0, d1, _⟩ := hd
    have f80 : l 80 = (.bool ((decide (y55.2 ≠ 0)) || (decide (y85.2 ≠ 0)))) := d0 rfl
    have f82g : phG (true && (((decide (y55.2 ≠ 0)) || (decide (y85.2 ≠ 0))) == false)) (phX (.bool (decide (y93.2 ≠ 0)))) (l 82) R9q := d1 rfl
    exact gstep_plain rfl rfl rfl (ph_val (val_or f80 rfl (fun hb => (show l 82 = (.bool (decide (y93.2 ≠ 0))) from f82g.1 (gandT rfl hb)))))
  · intro l R10q hle ha hd
    obtain ⟨d0, d1, _⟩ := hd
    have f83 : l 83 = (.bool (((decide (y55.2 ≠ 0)) || (decide (y85.2 ≠ 0))) || (decide (y93.2 ≠ 0)))) := d0 rfl
    exact gstep_plain rfl rfl rfl (ph_val (val_move f83))
  · intro l R11q hle ha hd
    obtain ⟨d0, _⟩ := hd
    have a18 : l 18 = (.int .i64 y101.2) := ha 18 rfl
    exact gstep_guard (Gj := true) (Bj := ((decide (y55.2 ≠ 0)) || (decide (y85.2 ≠ 0))) || (decide (y93.2 ≠ 0))) rfl rfl rfl (gtrue (d0 rfl)) rfl (fun hG hB => ph_val (val_move a18))
  · intro l R12q hle ha hd
    obtain ⟨d0, d1, _⟩ := hd
    have f85g : phG (true && ((((decide (y55.2 ≠ 0)) || (decide (y85.2 ≠ 0))) || (decide (y93.2 ≠ 0))) == false)) (phX (.int .i64 y101.2)) (l 85) R12q := d0 rfl
    exact gstep_guard (Gj := true) (Bj := ((decide (y55.2 ≠ 0)) || (decide (y85.2 ≠ 0))) || (decide (y93.2 ≠ 0))) rfl rfl rfl (gtrue (d1 rfl)) rfl (fun hG hB => ph_val (val_neq (show l 85 = (.int .i64 y101.2) from f85g.1 (gandT rfl hB)) rfl))
  · intro l R13q hle ha hd
    obtain ⟨d0, d1, _⟩ := hd
    have f84 : l 84 = (.bool (((decide (y55.2 ≠ 0)) || (decide (y85.2 ≠ 0))) || (decide (y93.2 ≠ 0)))) := d0 rfl
    have f86g : phG (true && ((((decide (y55.2 ≠ 0)) || (decide (y85.2 ≠ 0))) || (decide (y93.2 ≠ 0))) == false)) (phX (.bool (decide (y101.2 ≠ 0)))) (l 86) R13q := d1 rfl
    exact gstep_plain rfl rfl rfl (ph_val (val_or f84 rfl (fun hb => (show l 86 = (.bool (decide (y101.2 ≠ 0))) from f86g.1 (gandT rfl hb)))))
  · intro l R14q hle ha hd
    obtain ⟨d0, d1, _⟩ := hd
    have f87 : l 87 = (.bool ((((decide (y55.2 ≠ 0)) || (decide (y85.2 ≠ 0))) || (decide (y93.2 ≠ 0))) || (decide (y101.2 ≠ 0)))) := d0 rfl
    exact gstep_plain rfl rfl rfl (ph_val (val_move f87))
  · intro l R15q hle ha hd
    obtain ⟨d0, _⟩ := hd
    have a11 : l 11 = v77 := ha 11 rfl
    exact gstep_guard (Gj := true) (Bj := (((decide (y55.2 ≠ 0)) || (decide (y85.2 ≠ 0))) || (decide (y93.2 ≠ 0))) || (decide (y101.2 ≠ 0))) rfl rfl rfl (gtrue (d0 rfl)) rfl (fun hG hB => ph_val (val_move a11))
  · intro l R16q hle ha hd
    obtain ⟨d0, d1, _⟩ := hd
    have f89g : phG (true && (((((decide (y55.2 ≠ 0)) || (decide (y85.2 ≠ 0))) || (decide (y93.2 ≠ 0))) || (decide (y101.2 ≠ 0))) == false)) (phX v77) (l 89) R16q := d0 rfl
    exact gstep_guard (Gj := true) (Bj := (((decide (y55.2 ≠ 0)) || (decide (y85.2 ≠ 0))) || (decide (y93.2 ≠ 0))) || (decide (y101.2 ≠ 0))) rfl rfl rfl (gtrue (d1 rfl)) rfl (fun hG hB => ph_val (val_lenR rfl Try.underlying49 (show l 89 = v77 from f89g.1 (gandT rfl hB)) (sl_s ((h78.mono ((le90.trans le98).trans le104)).mono hle))))
  · intro l R17q hle ha hd
    obtain ⟨d0, _⟩ := hd
    have a8 : l 8 = v47 := ha 8 rfl
    exact gstep_guard (Gj := true) (Bj := (((decide (y55.2 ≠ 0)) || (decide (y85.2 ≠ 0))) || (decide (y93.2 ≠ 0))) || (decide (y101.2 ≠ 0))) rfl rfl rfl (gtrue (d0 rfl)) rfl (fun hG hB => ph_val (val_move a8))
  · intro l R18q hle ha hd
    obtain ⟨d0, d1, _⟩ := hd
    have f91g : phG (true && (((((decide (y55.2 ≠ 0)) || (decide (y85.2 ≠ 0))) || (decide (y93.2 ≠ 0))) || (decide (y101.2 ≠ 0))) == false)) (phX v47) (l 91) R18q := d0 rfl
    exact gstep_guard (Gj := true) (Bj := (((decide (y55.2 ≠ 0)) || (decide (y85.2 ≠ 0))) || (decide (y93.2 ≠ 0))) || (decide (y101.2 ≠ 0))) rfl rfl rfl (gtrue (d1 rfl)) rfl (fun hG hB => ph_val (val_lenR rfl Try.underlying49 (show l 91 = v47 from f91g.1 (gandT rfl hB)) (sl_s ((h48.mono (((le58.trans le90).trans le98).trans le104)).mono hle))))
  · intro l R19q hle ha hd
    obtain ⟨d0, _⟩ := hd
    have a9 : l 9 = v49 := ha 9 rfl
    exact gstep_guard (Gj := true) (Bj := (((decide (y55.2 ≠ 0)) || (decide (y85.2 ≠ 0))) || (decide (y93.2 ≠ 0))) || (decide (y101.2 ≠ 0))) rfl rfl rfl (gtrue (d0 rfl)) rfl (fun hG hB => ph_val (val_move a9))
  · intro l R20q hle ha hd
    obtain ⟨d0, d1, _⟩ := hd
    have f93g : phG (true && (((((decide (y55.2 ≠ 0)) || (decide (y85.2 ≠ 0))) || (decide (y93.2 ≠ 0))) || (decide (y101.2 ≠ 0))) == false)) (phX v49) (l 93) R20q := d0 rfl
    exact gstep_guard (Gj := true) (Bj := (((decide (y55.2 ≠ 0)) || (decide (y85.2 ≠ 0))) || (decide (y93.2 ≠ 0))) || (decide (y101.2 ≠ 0))) rfl rfl rfl (gtrue (d1 rfl)) rfl (fun hG hB => ph_val (val_lenR rfl Try.underlying49 (show l 93 = v49 from f93g.1 (gandT rfl hB)) (sl_s ((h50.mono (((le58.trans le90).trans le98).trans le104)).mono hle))))
  · intro l R21q hle ha hd
    obtain ⟨d0, d1, d2, _⟩ := hd
    have f92g : phG (true && (((((decide (y55.2 ≠ 0)) || (decide (y85.2 ≠ 0))) || (decide (y93.2 ≠ 0))) || (decide (y101.2 ≠ 0))) == false)) (phX (.int .i64 (↑y21.length : Int))) (l 92) R21q := d0 rfl
    have f94g : phG (true && (((((decide (y55.2 ≠ 0)) || (decide (y85.2 ≠ 0))) || (decide (y93.2 ≠ 0))) || (decide (y101.2 ≠ 0))) == false)) (phX (.int .i64 (↑y23.length : Int))) (l 94) R21q := d1 rfl
    exact gstep_guard (Gj := true) (Bj := (((decide (y55.2 ≠ 0)) || (decide (y85.2 ≠ 0))) || (decide (y93.2 ≠ 0))) || (decide (y101.2 ≠ 0))) rfl rfl rfl (gtrue (d2 rfl)) rfl (fun hG hB => ph_val (val_add (show l 92 = (.int .i64 (↑y21.length : Int)) from f92g.1 (gandT rfl hB)) (show l 94 = (.int .i64 (↑y23.length : Int)) from f94g.1 (gandT rfl hB)) (g127 (gandT hG hB))))
  · intro l R22q hle ha hd
    obtain ⟨d0, d1, d2, _⟩ := hd
    have f90g : phG (true && (((((decide (y55.2 ≠ 0)) || (decide (y85.2 ≠ 0))) || (decide (y93.2 ≠ 0))) || (decide (y101.2 ≠ 0))) == false)) (phX (.int .i64 (↑y55.1.length : Int))) (l 90) R22q := d0 rfl
    have f95g : phG (true && (((((decide (y55.2 ≠ 0)) || (decide (y85.2 ≠ 0))) || (decide (y93.2 ≠ 0))) || (decide (y101.2 ≠ 0))) == false)) (phX (.int .i64 ((↑y21.length : Int) + (↑y23.length : Int)))) (l 95) R22q := d1 rfl
    exact gstep_guard (Gj := true) (Bj := (((decide (y55.2 ≠ 0)) || (decide (y85.2 ≠ 0))) || (decide (y93.2 ≠ 0))) || (decide (y101.2 ≠ 0))) rfl rfl rfl (gtrue (d2 rfl)) rfl (fun hG hB => ph_val (val_neq (show l 90 = (.int .i64 (↑y55.1.length : Int)) from f90g.1 (gandT rfl hB)) (show l 95 = (.int .i64 ((↑y21.length : Int) + (↑y23.length : Int))) from f95g.1 (gandT rfl hB))))
  · intro l R23q hle ha hd
    obtain ⟨d0, d1, _⟩ := hd
    have f88 : l 88 = (.bool ((((decide (y55.2 ≠ 0)) || (decide (y85.2 ≠ 0))) || (decide (y93.2 ≠ 0))) || (decide (y101.2 ≠ 0)))) := d0 rfl
    have f96g : phG (true && (((((decide (y55.2 ≠ 0)) || (decide (y85.2 ≠ 0))) || (decide (y93.2 ≠ 0))) || (decide (y101.2 ≠ 0))) == false)) (phX (.bool (decide ((↑y55.1.length : Int) ≠ ((↑y21.length : Int) + (↑y23.length : Int)))))) (l 96) R23q := d1 rfl
    exact gstep_plain rfl rfl rfl (ph_val (val_or f88 rfl (fun hb => (show l 96 = (.bool (decide ((↑y55.1.length : Int) ≠ ((↑y21.length : Int) + (↑y23.length : Int))))) from f96g.1 (gandT rfl hb)))))
  · intro l R24q hle ha hd
    obtain ⟨d0, d1, _⟩ := hd
    have f97 : l 97 = (.bool (((((decide (y55.2 ≠ 0)) || (decide (y85.2 ≠ 0))) || (decide (y93.2 ≠ 0))) || (decide (y101.2 ≠ 0))) || (decide ((↑y55.1.length : Int) ≠ ((↑y21.length : Int) + (↑y23.length : Int)))))) := d0 rfl
    exact gstep_plain rfl rfl rfl (ph_val (val_move f97))
  · intro l R25q hle ha hd
    obtain ⟨d0, _⟩ := hd
    have a11 : l 11 = v77 := ha 11 rfl
    exact gstep_guard (Gj := true) (Bj := ((((decide (y55.2 ≠ 0)) || (decide (y85.2 ≠ 0))) || (decide (y93.2 ≠ 0))) || (decide (y101.2 ≠ 0))) || (decide ((↑y55.1.length : Int) ≠ ((↑y21.length : Int) + (↑y23.length : Int))))) rfl rfl rfl (gtrue (d0 rfl)) rfl (fun hG hB => ph_val (val_move a11))
  · intro l R26q hle ha hd
    obtain ⟨d0, _⟩ := hd
    have a8 : l 8 = v47 := ha 8 rfl
    exact gstep_guard (Gj := true) (Bj := ((((decide (y55.2 ≠ 0)) || (decide (y85.2 ≠ 0))) || (decide (y93.2 ≠ 0))) || (decide (y101.2 ≠ 0))) || (decide ((↑y55.1.length : Int) ≠ ((↑y21.length : Int) + (↑y23.length : Int))))) rfl rfl rfl (gtrue (d0 rfl)) rfl (fun hG hB => ph_val (val_move a8))
  · intro l R27q hle ha hd
    obtain ⟨d0, d1, _⟩ := hd
    have f100g : phG (true && ((((((decide (y55.2 ≠ 0)) || (decide (y85.2 ≠ 0))) || (decide (y93.2 ≠ 0))) || (decide (y101.2 ≠ 0))) || (decide ((↑y55.1.length : Int) ≠ ((↑y21.length : Int) + (↑y23.length : Int))))) == false)) (phX v47) (l 100) R27q := d0 rfl
    exact gstep_guard (Gj := true) (Bj := ((((decide (y55.2 ≠ 0)) || (decide (y85.2 ≠ 0))) || (decide (y93.2 ≠ 0))) || (decide (y101.2 ≠ 0))) || (decide ((↑y55.1.length : Int) ≠ ((↑y21.length : Int) + (↑y23.length : Int))))) rfl rfl rfl (gtrue (d1 rfl)) rfl (fun hG hB => ph_val (val_lenR rfl Try.underlying49 (show l 100 = v47 from f100g.1 (gandT rfl hB)) (sl_s ((h48.mono (((le58.trans le90).trans le98).trans le104)).mono hle))))
  · intro l R28q hle ha hd
    obtain ⟨d0, d1, d2, _⟩ := hd
    have f99g : phG (true && ((((((decide (y55.2 ≠ 0)) || (decide (y85.2 ≠ 0))) || (decide (y93.2 ≠ 0))) || (decide (y101.2 ≠ 0))) || (decide ((↑y55.1.length : Int) ≠ ((↑y21.length : Int) + (↑y23.length : Int))))) == false)) (phX v77) (l 99) R28q := d0 rfl
    have f101g : phG (true && ((((((decide (y55.2 ≠ 0)) || (decide (y85.2 ≠ 0))) || (decide (y93.2 ≠ 0))) || (decide (y101.2 ≠ 0))) || (decide ((↑y55.1.length : Int) ≠ ((↑y21.length : Int) + (↑y23.length : Int))))) == false)) (phX (.int .i64 (↑y21.length : Int))) (l 101) R28q := d1 rfl
    exact gstep_guard (Gj := true) (Bj := ((((decide (y55.2 ≠ 0)) || (decide (y85.2 ≠ 0))) || (decide (y93.2 ≠ 0))) || (decide (y101.2 ≠ 0))) || (decide ((↑y55.1.length : Int) ≠ ((↑y21.length : Int) + (↑y23.length : Int))))) rfl rfl rfl (gtrue (d2 rfl)) rfl (fun hG hB => ph_sliceF (lo := (0 : Int).toNat) (hi := (↑y21.length : Int).toNat) (mx := (capOf v77)) (X' := (cut y55.1 0 (↑y21.length : Int))) sl49 (show l 99 = v77 from f99g.1 (gandT rfl hB)) (sl_s ((h78.mono ((le90.trans le98).trans le104)).mono hle)) (.inl ⟨rfl, rfl⟩) (.inr ⟨_, congrArg some (idx_nonneg (show l 101 = (.int .i64 (↑y21.length : Int)) from f101g.1 (gandT rfl hB)) (okS_0 (g128 (gandT hG hB))))⟩) (.inl ⟨rfl, rfl⟩) (okS_1 (g128 (gandT hG hB))) (okS_2 (g128 (gandT hG hB))) (fun h => Nat.le_trans (okS_2 (g128 (gandT hG hB))) h) (fun _ => Nat.le_refl _) rfl)
  · intro l R29q hle ha hd
    obtain ⟨d0, _⟩ := hd
    have a13 : l 13 = v91 := ha 13 rfl
    exact gstep_guard (Gj := true) (Bj := ((((decide (y55.2 ≠ 0)) || (decide (y85.2 ≠ 0))) || (decide (y93.2 ≠ 0))) || (decide (y101.2 ≠ 0))) || (decide ((↑y55.1.length : Int) ≠ ((↑y21.length : Int) + (↑y23.length : Int))))) rfl rfl rfl (gtrue (d0 rfl)) rfl (fun hG hB => ph_val (val_move a13))
  · intro l R30q hle ha hd
    obtain ⟨d0, d1, d2, d3, _⟩ := hd
    have f102g : phG (true && ((((((decide (y55.2 ≠ 0)) || (decide (y85.2 ≠ 0))) || (decide (y93.2 ≠ 0))) || (decide (y101.2 ≠ 0))) || (decide ((↑y55.1.length : Int) ≠ ((↑y21.length : Int) + (↑y23.length : Int))))) == false)) (phR (tSl false (tInt .i64)) (cut y55.1 0 (↑y21.length : Int))) (l 102) R30q := d0 rfl
    have f103g : phG (true && ((((((decide (y55.2 ≠ 0)) || (decide (y85.2 ≠ 0))) || (decide (y93.2 ≠ 0))) || (decide (y101.2 ≠ 0))) || (decide ((↑y55.1.length : Int) ≠ ((↑y21.length : Int) + (↑y23.length : Int))))) == false)) (phX v91) (l 103) R30q := d1 rfl
    exact gstep_guard (Gj := true) (Bj := ((((decide (y55.2 ≠ 0)) || (decide (y85.2 ≠ 0))) || (decide (y93.2 ≠ 0))) || (decide (y101.2 ≠ 0))) || (decide ((↑y55.1.length : Int) ≠ ((↑y21.length : Int) + (↑y23.length : Int))))) rfl rfl rfl (gtrue (d2 rfl)) rfl (fun hG hB => ph_callP en28 (by simp only [List.map, ev, (show l 103 = v91 from f103g.1 (gandT rfl hB))] <;> rfl) (c_gauntletref01_Same (f102g.1 (gandT rfl hB)) (Sub.v (B := (tSl false (tInt .i64))) (sub_sl Sub.refl (fun _ => rfl)) ((h92.mono (le98.trans le104)).mono hle)) (gop_def c130 (gandT hG hB))) (fun _ _ h => h))
  · intro l R31q hle ha hd
    obtain ⟨d0, d1, _⟩ := hd
    have f104g : phG (true && ((((((decide (y55.2 ≠ 0)) || (decide (y85.2 ≠ 0))) || (decide (y93.2 ≠ 0))) || (decide (y101.2 ≠ 0))) || (decide ((↑y55.1.length : Int) ≠ ((↑y21.length : Int) + (↑y23.length : Int))))) == false)) (phX (.bool (y129.getD default))) (l 104) R31q := d0 rfl
    exact gstep_guard (Gj := true) (Bj := ((((decide (y55.2 ≠ 0)) || (decide (y85.2 ≠ 0))) || (decide (y93.2 ≠ 0))) || (decide (y101.2 ≠ 0))) || (decide ((↑y55.1.length : Int) ≠ ((↑y21.length : Int) + (↑y23.length : Int))))) rfl rfl rfl (gtrue (d1 rfl)) rfl (fun hG hB => ph_val (val_not (show l 104 = (.bool (y129.getD default)) from f104g.1 (gandT rfl hB))))
  · intro l R32q hle ha hd
    obtain ⟨d0, d1, _⟩ := hd
    have f98 : l 98 = (.bool (((((decide (y55.2 ≠ 0)) || (decide (y85.2 ≠ 0))) || (decide (y93.2 ≠ 0))) || (decide (y101.2 ≠ 0))) || (decide ((↑y55.1.length : Int) ≠ ((↑y21.length : Int) + (↑y23.length : Int)))))) := d0 rfl
    have f105g : phG (true && ((((((decide (y55.2 ≠ 0)) || (decide (y85.2 ≠ 0))) || (decide (y93.2 ≠ 0))) || (decide (y101.2 ≠ 0))) || (decide ((↑y55.1.length : Int) ≠ ((↑y21.length : Int) + (↑y23.length : Int))))) == false)) (phX (.bool (!(y129.getD default)))) (l 105) R32q := d1 rfl
    exact gstep_plain rfl rfl rfl (ph_val (val_or f98 rfl (fun hb => (show l 105 = (.bool (!(y129.getD default))) from f105g.1 (gandT rfl hb)))))
  intro v133 h134
  intro v135 h136
  intro v137 h138
  intro v139 h140
  intro v141 h142
  intro v143 h144
  intro v145 h146
  intro v147 h148
  intro v149 h150
  intro v151 h152
  intro v153 h154
  intro v155 h156
  intro v157 h158
  intro v159 h160
  intro v161 h162
  intro v163 h164
  intro v165 h166
  intro v167 h168
  intro v169 h170
  intro v171 h172
  intro v173 h174
  intro v175 h176
  intro v177 h178
  intro v179 h180
  intro v181 h182
  intro v183 h184
  intro v185 h186
  intro v187 h188
  intro v189 h190
  intro v191 h192
  intro v193 h194
  intro v195 h196
  intro v197 h198
  obtain rfl := Eq.symm h134
  obtain rfl := Eq.symm h136
  obtain rfl := Eq.symm h138
  obtain rfl := Eq.symm h144
  obtain rfl := Eq.symm h146
  obtain rfl := Eq.symm h152
  obtain rfl := Eq.symm h154
  obtain rfl := Eq.symm h160
  obtain rfl := Eq.symm h162
  obtain rfl := Eq.symm h180
  obtain rfl := Eq.symm h182
  obtain rfl := Eq.symm h198
  refine wo_nil ?_
  refine wg_cond rfl (fun e199 => ?_) (fun e199 => ?_)
  · replace hd0 := sel_t e199 hd0; clear e199
    refine wg_seq ?_
    refine wg_region ?_
    refine wo_v rfl (val_assign (v := (.bool false)) rfl) ?_
    refine wo_nil ?_
    refine wg_ret ?_
    obtain rfl := Option.some.inj hd0
    refine body_end (D := []) (J := [box b17 [(.int .i64 y11.inputs), (.int .i64 y11.outputs), v19] 27]) (rs := [.tmp 6]) (vs := [(.bool false)]) ((((((((le4.trans le8).trans le16).trans le26).trans le58).trans le90).trans le98).trans le104).trans le132) rfl rfl ⟨rfl, trivial⟩ ?_
    exact ⟨rfl, rfl⟩
  · replace hd0 := sel_f e199 hd0; clear e199
    refine wg_skip ?_
    refine wg_seq ?_
    refine wg_seq ?_
    refine wg_region ?_
    refine wo_v rfl (val_move (v := (.int .i64 y93.1)) rfl) ?_
    refine wo_v rfl (val_eql rfl rfl) ?_
    refine wo_nil ?_
    refine wg_cond rfl (fun e200 => ?_) (fun e200 => ?_)
    · replace hd0 := sel_t e200 hd0; clear e200
      replace hd0 := bd_some hd0; obtain ⟨q202, hd1, hd0⟩ := hd0
      refine wg_meet (γ := Unit) true [109, 110, 19, 111, 112, 113, 114, 117, 118, 119, 120, 121, 6, 115, 116] (fun g => []) (fun g => [] ++ A) (fun g R => q202 = Ex.go g ∧ True) ?_ ?_
      ·
        refine wg_seq ?_
        refine wg_region ?_
        refine wo_v rfl (val_move (v := v47) rfl) ?_
        refine wo_v rfl (val_lenR rfl Try.underlying49 rfl (sl_s (h48.mono ((((le58.trans le90).trans le98).trans le104).trans le132)))) ?_
        refine wo_v rfl (val_assign (v := (.int .i64 (↑y21.length : Int))) rfl) ?_
        refine wo_nil ?_
        refine wg_block ?_
        refine wg_loopS (γ := Nat × Int) true [111, 112, 113, 114, 117, 118, 119, 120, 121, 6, 115, 116, 19] (fun g => [(19, (.int .i64 g.2))]) (fun g => [] ++ A) (fun g R => gauntletlaw04_MachinesSplit_L1 N y55 g.1 g.2 = some q202 ∧ True) (fun g => g.1) (N, (↑y21.length : Int)) ⟨rfl, trivial⟩ ⟨[box b17 [(.int .i64 y11.inputs), (.int .i64 y11.outputs), v19] 27], (List.Perm.refl _)⟩ ⟨hd1, trivial⟩ (fun _ => rfl) ?_
        clear hd1
        rintro ⟨F205, x206⟩ j217 D218 R207 hD219 le208 ⟨hd1, _⟩
        obtain rfl := hD219 rfl
        rcases F205 with _ | F205
        · exact none_elim hd1
        replace hd1 : gauntletlaw04_MachinesSplit_L1 N y55 (F205 + 1) x206 = some q202 := hd1; rw [gauntletlaw04_MachinesSplit_L1] at hd1
        refine wg_seq ?_
        refine wg_seq ?_
        refine wg_region ?_
        refine wo_v rfl (val_move (v := (.int .i64 x206)) rfl) ?_
        refine wo_v rfl (val_move (v := v77) rfl) ?_
        refine wo_v rfl (val_lenR rfl Try.underlying49 rfl (sl_s (h78.mono ((((le90.trans le98).trans le104).trans le132).trans le208)))) ?_
        refine wo_v rfl (val_lss rfl rfl) ?_
        refine wo_nil ?_
        refine wg_cond rfl (fun e209 => ?_) (fun e209 => ?_)
        · replace hd1 := sel_t e209 hd1; clear e209
          refine wg_skip ?_
          refine wg_seq ?_
          refine wg_block ?_
          refine wg_seq ?_
          refine wg_region ?_
          refine wo_v rfl (val_move (v := v77) rfl) ?_
          refine wo_v rfl (val_move (v := (.int .i64 x206)) rfl) ?_
          have g210 := (gd_some hd1).1; replace hd1 := (gd_some hd1).2
          refine wo_indexR (i := x206.toNat) rfl sl49 rfl (sl_s (h78.mono ((((le90.trans le98).trans le104).trans le132).trans le208))) (idx_nonneg rfl g210.1) (okI_lt g210) fun v211 h212 => ?_
          refine wo_loadR rfl ty3 rfl h212 fun v213 h214 => ?_
          obtain rfl := vrep_int.1 h214
          refine wo_v rfl (val_neq rfl rfl) ?_
          refine wo_nil ?_
          refine wg_cond rfl (fun e215 => ?_) (fun e215 => ?_)
          · replace hd1 := sel_t e215 hd1; clear e215
            refine wg_seq ?_
            refine wg_region ?_
            refine wo_v rfl (val_assign (v := (.bool false)) rfl) ?_
            refine wo_nil ?_
            refine wg_ret ?_
            replace hd0 := on_rt hd1 hd0
            obtain rfl := Option.some.inj hd0
            refine body_end (D := []) (J := []) (rs := [.tmp 6]) (vs := [(.bool false)]) (((((((((le4.trans le8).trans le16).trans le26).trans le58).trans le90).trans le98).trans le104).trans le132).trans le208) rfl rfl ⟨rfl, trivial⟩ ?_
            exact ⟨rfl, rfl⟩
          · replace hd1 := sel_f e215 hd1; clear e215
            refine wg_skip ?_
            refine wg_region ?_
            refine wo_v rfl (val_move (v := (.int .i64 x206)) rfl) ?_
            have g216 := (gd_some hd1).1; replace hd1 := (gd_some hd1).2
            refine wo_v rfl (val_add rfl rfl g216) ?_
            refine wo_v rfl (val_assign (v := (.int .i64 (x206 + 1))) rfl) ?_
            refine wo_nil ?_
            exact ⟨(fun _ => rfl), (RH.le.refl _), (by repeat (first | exact off_self | refine off_upd rfl ?_ | refine off_setl rfl ?_ | refine off_mask_sub rfl ?_)), (F205, x206 + 1), Nat.lt_succ_self _, ⟨rfl, trivial⟩, ⟨[], List.Perm.refl _⟩, hd1, trivial⟩
        · replace hd1 := sel_f e209 hd1; clear e209
          refine wg_exit ?_
          exact ⟨(fun _ => rfl), le208, (by repeat (first | exact off_self | refine off_upd rfl ?_ | refine off_setl rfl ?_ | refine off_mask_sub rfl ?_)), (), trivial, ⟨[], List.Perm.refl _⟩, (Option.some.inj hd1).symm, trivial⟩
      ·
        rintro o201 j220 D221 R203 hD222 le204 ⟨rfl, _⟩
        obtain rfl := hD222 rfl
        replace hd0 := on_go hd0
        refine wg_seq ?_
        replace hd0 := bd_some hd0; obtain ⟨y223, c224, hd0⟩ := hd0
        refine wg_guarded 6 [] [phX (.int .i64 y101.1), phX (.bool (decide (y101.1 = (-1)))), phX (.bool (decide (y101.1 = (-1)))), phG (true && ((decide (y101.1 = (-1))) == true)) (phX (.bool (y223.getD default))), phX (.bool ((decide (y101.1 = (-1))) && (y223.getD default))), phX (.bool ((decide (y101.1 = (-1))) && (y223.getD default)))] (by kernel_rfl) (by kernel_rfl) (monoOk_of ⟨mono_x, mono_x, mono_x, (mono_g mono_x), mono_x, mono_x, trivial⟩) ⟨?_, ?_, ?_, ?_, ?_, ?_, trivial⟩ fun R225 le226 => ?_
        · intro l R0q hle ha hd
          have a17 : l 17 = (.int .i64 y101.1) := ha 17 rfl
          exact gstep_plain rfl rfl rfl (ph_val (val_move a17))
        · intro l R1q hle ha hd
          obtain ⟨d0, _⟩ := hd
          have f122 : l 122 = (.int .i64 y101.1) := d0 rfl
          exact gstep_plain rfl rfl rfl (ph_val (val_eql f122 rfl))
        · intro l R2q hle ha hd
          obtain ⟨d0, _⟩ := hd
          have f123 : l 123 = (.bool (decide (y101.1 = (-1)))) := d0 rfl
          exact gstep_plain rfl rfl rfl (ph_val (val_move f123))
        · intro l R3q hle ha hd
          obtain ⟨d0, d1, _⟩ := hd
          exact gstep_guard (Gj := true) (Bj := decide (y101.1 = (-1))) rfl rfl rfl (gtrue (d0 rfl)) rfl (fun hG hB => ph_callP en19 rfl (c_gauntletlaw04_lives  (gop_def c224 (gandT hG hB))) (fun _ _ h => h))
        · intro l R4q hle ha hd
          obtain ⟨d0, d1, _⟩ := hd
          have f124 : l 124 = (.bool (decide (y101.1 = (-1)))) := d0 rfl
          have f125g : phG (true && ((decide (y101.1 = (-1))) == true)) (phX (.bool (y223.getD default))) (l 125) R4q := d1 rfl
          exact gstep_plain rfl rfl rfl (ph_val (val_and f124 (fun hb => (show l 125 = (.bool (y223.getD default)) from f125g.1 (gandT rfl hb))) rfl))
        · intro l R5q hle ha hd
          obtain ⟨d0, d1, d2, d3, d4, d5, d6, _⟩ := hd
          have f126 : l 126 = (.bool ((decide (y101.1 = (-1))) && (y223.getD default))) := d0 rfl
          exact gstep_plain rfl rfl rfl (ph_val (val_assign f126))
        intro v227 h228
        intro v229 h230
        intro v231 h232
        intro v233 h234
        intro v235 h236
        intro v237 h238
        obtain rfl := Eq.symm h228
        obtain rfl := Eq.symm h230
        obtain rfl := Eq.symm h232
        obtain rfl := Eq.symm h236
        obtain rfl := Eq.symm h238
        refine wo_nil ?_
        refine wg_ret ?_
        obtain rfl := Option.some.inj hd0
        refine body_end (D := []) (J := []) (rs := [.tmp 6]) (vs := [(.bool ((decide (y101.1 = (-1))) && (y223.getD default)))]) ((((((((((le4.trans le8).trans le16).trans le26).trans le58).trans le90).trans le98).trans le104).trans le132).trans le204).trans le226) rfl rfl ⟨rfl, trivial⟩ ?_
        exact ⟨rfl, rfl⟩
    · replace hd0 := sel_f e200 hd0; clear e200
      refine wg_skip ?_
      refine wg_seq ?_
      refine wg_region ?_
      refine wo_v rfl (val_loadBA (i := 0) ag27 sz27 rfl rfl rfl rfl) ?_
      refine wo_v rfl (val_move (v := (.int .i64 y93.1)) rfl) ?_
      refine wo_v rfl (val_move (v := v49) rfl) ?_
      replace hd0 := bd_some hd0; obtain ⟨y239, c240, hd0⟩ := hd0
      refine wo_callP rfl en21 rfl (c_machines_Run (⟨_, ⟨_, _, rfl, rfl, ⟨_, _, rfl, rfl, (rep_one rfl (h20.mono (((((le26.trans le58).trans le90).trans le98).trans le104).trans le132)))⟩⟩, rfl⟩ : VRep (kMach false false) _ _ (⟨y11.inputs, y11.outputs, y11.rows⟩ : Mach)) (h50.mono ((((le58.trans le90).trans le98).trans le104).trans le132)) c240) fun v241 R243 le244 h242 => ?_
      obtain ⟨v245, rfl, h246⟩ := h242
      refine wo_v rfl (val_move (v := (.tuple #[v245, (.int .i64 y239.2)])) rfl) ?_
      refine wo_v rfl (val_extract rfl rfl) ?_
      refine wo_v rfl (val_extract rfl rfl) ?_
      refine wo_v rfl (val_assign (v := v245) rfl) ?_
      refine wo_v rfl (val_assign (v := (.int .i64 y239.2)) rfl) ?_
      refine wo_nil ?_
      refine wg_seq ?_
      refine wg_region ?_
      refine wo_v rfl (val_loadBA (i := 0) ag27 sz27 rfl rfl rfl rfl) ?_
      refine wo_v rfl (val_move (v := (.int .i64 y93.1)) rfl) ?_
      refine wo_v rfl (val_move (v := v49) rfl) ?_
      replace hd0 := bd_some hd0; obtain ⟨y247, c248, hd0⟩ := hd0
      refine wo_callP rfl en22 rfl (c_machines_After (⟨_, ⟨_, _, rfl, rfl, ⟨_, _, rfl, rfl, (rep_one rfl (h20.mono ((((((le26.trans le58).trans le90).trans le98).trans le104).trans le132).trans le244)))⟩⟩, rfl⟩ : VRep (kMach false false) _ _ (⟨y11.inputs, y11.outputs, y11.rows⟩ : Mach)) (h50.mono (((((le58.trans le90).trans le98).trans le104).trans le132).trans le244)) c248) fun v249 R251 le252 h250 => ?_
      obtain rfl := h250
      refine wo_v rfl (val_move (v := (.tuple #[(.int .i64 y247.1), (.int .i64 y247.2)])) rfl) ?_
      refine wo_v rfl (val_extract rfl rfl) ?_
      refine wo_v rfl (val_extract rfl rfl) ?_
      refine wo_v rfl (val_assign (v := (.int .i64 y247.1)) rfl) ?_
      refine wo_v rfl (val_assign (v := (.int .i64 y247.2)) rfl) ?_
      refine wo_nil ?_
      refine wg_seq ?_
      have g253 := (gd_some hd0).1; replace hd0 := (gd_some hd0).2
      replace hd0 := bd_some hd0; obtain ⟨y254, c255, hd0⟩ := hd0
      replace hd0 := bd_some hd0; obtain ⟨y256, c257, hd0⟩ := hd0
      refine wg_guarded 23 [] [phX (.int .i64 y239.2), phX (.bool (decide (y239.2 = 0))), phX (.bool (decide (y239.2 = 0))), phG (true && ((decide (y239.2 = 0)) == true)) (phX (.int .i64 y247.2)), phG (true && ((decide (y239.2 = 0)) == true)) (phX (.bool (decide (y247.2 = 0)))), phX (.bool ((decide (y239.2 = 0)) && (decide (y247.2 = 0)))), phX (.bool ((decide (y239.2 = 0)) && (decide (y247.2 = 0)))), phG (true && (((decide (y239.2 = 0)) && (decide (y247.2 = 0))) == true)) (phX v77), phG (true && (((decide (y239.2 = 0)) && (decide (y247.2 = 0))) == true)) (phX v47), phG (true && (((decide (y239.2 = 0)) && (decide (y247.2 = 0))) == true)) (phX (.int .i64 (↑y21.length : Int))), phG (true && (((decide (y239.2 = 0)) && (decide (y247.2 = 0))) == true)) (phR (tSl false (tInt .i64)) (cut y55.1 (↑y21.length : Int) (↑y55.1.length : Int))), phG (true && (((decide (y239.2 = 0)) && (decide (y247.2 = 0))) == true)) (phX v245), phG (true && (((decide (y239.2 = 0)) && (decide (y247.2 = 0))) == true)) (phX (.bool (y254.getD default))), phX (.bool (((decide (y239.2 = 0)) && (decide (y247.2 = 0))) && (y254.getD default))), phX (.bool (((decide (y239.2 = 0)) && (decide (y247.2 = 0))) && (y254.getD default))), phG (true && ((((decide (y239.2 = 0)) && (decide (y247.2 = 0))) && (y254.getD default)) == true)) (phX (.int .i64 y101.1)), phG (true && ((((decide (y239.2 = 0)) && (decide (y247.2 = 0))) && (y254.getD default)) == true)) (phX (.int .i64 y247.1)), phG (true && ((((decide (y239.2 = 0)) && (decide (y247.2 = 0))) && (y254.getD default)) == true)) (phX (.bool (decide (y101.1 = y247.1)))), phX (.bool ((((decide (y239.2 = 0)) && (decide (y247.2 = 0))) && (y254.getD default)) && (decide (y101.1 = y247.1)))), phX (.bool ((((decide (y239.2 = 0)) && (decide (y247.2 = 0))) && (y254.getD default)) && (decide (y101.1 = y247.1)))), phG (true && (((((decide (y239.2 = 0)) && (decide (y247.2 = 0))) && (y254.getD default)) && (decide (y101.1 = y247.1))) == true)) (phX (.bool (y256.getD default))), phX (.bool (((((decide (y239.2 = 0)) && (decide (y247.2 = 0))) && (y254.getD default)) && (decide (y101.1 = y247.1))) && (y256.getD default))), phX (.bool (((((decide (y239.2 = 0)) && (decide (y247.2 = 0))) && (y254.getD default)) && (decide (y101.1 = y247.1))) && (y256.getD default)))] (by kernel_rfl) (by kernel_rfl) (monoOk_of ⟨mono_x, mono_x, mono_x, (mono_g mono_x), (mono_g mono_x), mono_x, mono_x, (mono_g mono_x), (mono_g mono_x), (mono_g mono_x), (mono_g mono_r), (mono_g mono_x), (mono_g mono_x), mono_x, mono_x, (mono_g mono_x), (mono_g mono_x), (mono_g mono_x), mono_x, mono_x, (mono_g mono_x), mono_x, mono_x, trivial⟩) ⟨?_, ?_, ?_, ?_, ?_, ?_, ?_, ?_, ?_, ?_, ?_, ?_, ?_, ?_, ?_, ?_, ?_, ?_, ?_, ?_, ?_, ?_, ?_, trivial⟩ fun R258 le259 => ?_
      · intro l R0q hle ha hd
        have a21 : l 21 = (.int .i64 y239.2) := ha 21 rfl
        exact gstep_plain rfl rfl rfl (ph_val (val_move a21))
      · intro l R1q hle ha hd
        obtain ⟨d0, _⟩ := hd
        have f141 : l 141 = (.int .i64 y239.2) := d0 rfl
        exact gstep_plain rfl rfl rfl (ph_val (val_eql f141 rfl))
      · intro l R2q hle ha hd
        obtain ⟨d0, _⟩ := hd
        have f142 : l 142 = (.bool (decide (y239.2 = 0))) := d0 rfl
        exact gstep_plain rfl rfl rfl (ph_val (val_move f142))
      · intro l R3q hle ha hd
        obtain ⟨d0, _⟩ := hd
        have a23 : l 23 = (.int .i64 y247.2) := ha 23 rfl
        exact gstep_guard (Gj := true) (Bj := decide (y239.2 = 0)) rfl rfl rfl (gtrue (d0 rfl)) rfl (fun hG hB => ph_val (val_move a23))
      · intro l R4q hle ha hd
        obtain ⟨d0, d1, _⟩ := hd
        have f144g : phG (true && ((decide (y239.2 = 0)) == true)) (phX (.int .i64 y247.2)) (l 144) R4q := d0 rfl
        exact gstep_guard (Gj := true) (Bj := decide (y239.2 = 0)) rfl rfl rfl (gtrue (d1 rfl)) rfl (fun hG hB => ph_val (val_eql (show l 144 = (.int .i64 y247.2) from f144g.1 (gandT rfl hB)) rfl))
      · intro l R5q hle ha hd
        obtain ⟨d0, d1, _⟩ := hd
        have f143 : l 143 = (.bool (decide (y239.2 = 0))) := d0 rfl
        have f145g : phG (true && ((decide (y239.2 = 0)) == true)) (phX (.bool (decide (y247.2 = 0)))) (l 145) R5q := d1 rfl
        exact gstep_plain rfl rfl rfl (ph_val (val_and f143 (fun hb => (show l 145 = (.bool (decide (y247.2 = 0))) from f145g.1 (gandT rfl hb))) rfl))
      · intro l R6q hle ha hd
        obtain ⟨d0, d1, _⟩ := hd
        have f146 : l 146 = (.bool ((decide (y239.2 = 0)) && (decide (y247.2 = 0)))) := d0 rfl
        exact gstep_plain rfl rfl rfl (ph_val (val_move f146))
      · intro l R7q hle ha hd
        obtain ⟨d0, _⟩ := hd
        have a11 : l 11 = v77 := ha 11 rfl
        exact gstep_guard (Gj := true) (Bj := (decide (y239.2 = 0)) && (decide (y247.2 = 0))) rfl rfl rfl (gtrue (d0 rfl)) rfl (fun hG hB => ph_val (val_move a11))
      · intro l R8q hle ha hd
        obtain ⟨d0, _⟩ := hd
        have a8 : l 8 = v47 := ha 8 rfl
        exact gstep_guard (Gj := true) (Bj := (decide (y239.2 = 0)) && (decide (y247.2 = 0))) rfl rfl rfl (gtrue (d0 rfl)) rfl (fun hG hB => ph_val (val_move a8))
      · intro l R9q hle ha hd
        obtain ⟨d0, d1, _⟩ := hd
        have f149g : phG (true && (((decide (y239.2 = 0)) && (decide (y247.2 = 0))) == true)) (phX v47) (l 149) R9q := d0 rfl
        exact gstep_guard (Gj := true) (Bj := (decide (y239.2 = 0)) && (decide (y247.2 = 0))) rfl rfl rfl (gtrue (d1 rfl)) rfl (fun hG hB => ph_val (val_lenR rfl Try.underlying49 (show l 149 = v47 from f149g.1 (gandT rfl hB)) (sl_s ((h48.mono ((((((le58.trans le90).trans le98).trans le104).trans le132).trans le244).trans le252)).mono hle))))
      · intro l R10q hle ha hd
        obtain ⟨d0, d1, d2, _⟩ := hd
        have f148g : phG (true && (((decide (y239.2 = 0)) && (decide (y247.2 = 0))) == true)) (phX v77) (l 148) R10q := d0 rfl
        have f150g : phG (true && (((decide (y239.2 = 0)) && (decide (y247.2 = 0))) == true)) (phX (.int .i64 (↑y21.length : Int))) (l 150) R10q := d1 rfl
        exact gstep_guard (Gj := true) (Bj := (decide (y239.2 = 0)) && (decide (y247.2 = 0))) rfl rfl rfl (gtrue (d2 rfl)) rfl (fun hG hB => ph_sliceF (lo := (↑y21.length : Int).toNat) (hi := (↑y55.1.length : Int).toNat) (mx := (capOf v77)) (X' := (cut y55.1 (↑y21.length : Int) (↑y55.1.length : Int))) sl49 (show l 148 = v77 from f148g.1 (gandT rfl hB)) (sl_s ((h78.mono (((((le90.trans le98).trans le104).trans le132).trans le244).trans le252)).mono hle)) (.inr ⟨_, congrArg some (idx_nonneg (show l 150 = (.int .i64 (↑y21.length : Int)) from f150g.1 (gandT rfl hB)) (g253 (gandT hG hB)).1)⟩) (.inl ⟨rfl, rfl, rfl⟩) (.inl ⟨rfl, rfl⟩) (okS_1 (g253 (gandT hG hB))) (okS_2 (g253 (gandT hG hB))) (fun h => Nat.le_trans (okS_2 (g253 (gandT hG hB))) h) (fun _ => Nat.le_refl _) rfl)
      · intro l R11q hle ha hd
        obtain ⟨d0, _⟩ := hd
        have a20 : l 20 = v245 := ha 20 rfl
        exact gstep_guard (Gj := true) (Bj := (decide (y239.2 = 0)) && (decide (y247.2 = 0))) rfl rfl rfl (gtrue (d0 rfl)) rfl (fun hG hB => ph_val (val_move a20))
      · intro l R12q hle ha hd
        obtain ⟨d0, d1, d2, d3, _⟩ := hd
        have f151g : phG (true && (((decide (y239.2 = 0)) && (decide (y247.2 = 0))) == true)) (phR (tSl false (tInt .i64)) (cut y55.1 (↑y21.length : Int) (↑y55.1.length : Int))) (l 151) R12q := d0 rfl
        have f152g : phG (true && (((decide (y239.2 = 0)) && (decide (y247.2 = 0))) == true)) (phX v245) (l 152) R12q := d1 rfl
        exact gstep_guard (Gj := true) (Bj := (decide (y239.2 = 0)) && (decide (y247.2 = 0))) rfl rfl rfl (gtrue (d2 rfl)) rfl (fun hG hB => ph_callP en28 (by simp only [List.map, ev, (show l 152 = v245 from f152g.1 (gandT rfl hB))] <;> rfl) (c_gauntletref01_Same (f151g.1 (gandT rfl hB)) (Sub.v (B := (tSl false (tInt .i64))) (sub_sl Sub.refl (fun _ => rfl)) ((h246.mono le252).mono hle)) (gop_def c255 (gandT hG hB))) (fun _ _ h => h))
      · intro l R13q hle ha hd
        obtain ⟨d0, d1, _⟩ := hd
        have f147 : l 147 = (.bool ((decide (y239.2 = 0)) && (decide (y247.2 = 0)))) := d0 rfl
        have f153g : phG (true && (((decide (y239.2 = 0)) && (decide (y247.2 = 0))) == true)) (phX (.bool (y254.getD default))) (l 153) R13q := d1 rfl
        exact gstep_plain rfl rfl rfl (ph_val (val_and f147 (fun hb => (show l 153 = (.bool (y254.getD default)) from f153g.1 (gandT rfl hb))) rfl))
      · intro l R14q hle ha hd
        obtain ⟨d0, d1, _⟩ := hd
        have f154 : l 154 = (.bool (((decide (y239.2 = 0)) && (decide (y247.2 = 0))) && (y254.getD default))) := d0 rfl
        exact gstep_plain rfl rfl rfl (ph_val (val_move f154))
      · intro l R15q hle ha hd
        obtain ⟨d0, _⟩ := hd
        have a17 : l 17 = (.int .i64 y101.1) := ha 17 rfl
        exact gstep_guard (Gj := true) (Bj := ((decide (y239.2 = 0)) && (decide (y247.2 = 0))) && (y254.getD default)) rfl rfl rfl (gtrue (d0 rfl)) rfl (fun hG hB => ph_val (val_move a17))
      · intro l R16q hle ha hd
        obtain ⟨d0, _⟩ := hd
        have a22 : l 22 = (.int .i64 y247.1) := ha 22 rfl
        exact gstep_guard (Gj := true) (Bj := ((decide (y239.2 = 0)) && (decide (y247.2 = 0))) && (y254.getD default)) rfl rfl rfl (gtrue (d0 rfl)) rfl (fun hG hB => ph_val (val_move a22))
      · intro l R17q hle ha hd
        obtain ⟨d0, d1, d2, _⟩ := hd
        have f156g : phG (true && ((((decide (y239.2 = 0)) && (decide (y247.2 = 0))) && (y254.getD default)) == true)) (phX (.int .i64 y101.1)) (l 156) R17q := d0 rfl
        have f157g : phG (true && ((((decide (y239.2 = 0)) && (decide (y247.2 = 0))) && (y254.getD default)) == true)) (phX (.int .i64 y247.1)) (l 157) R17q := d1 rfl
        exact gstep_guard (Gj := true) (Bj := ((decide (y239.2 = 0)) && (decide (y247.2 = 0))) && (y254.getD default)) rfl rfl rfl (gtrue (d2 rfl)) rfl (fun hG hB => ph_val (val_eql (show l 156 = (.int .i64 y101.1) from f156g.1 (gandT rfl hB)) (show l 157 = (.int .i64 y247.1) from f157g.1 (gandT rfl hB))))
      · intro l R18q hle ha hd
        obtain ⟨d0, d1, _⟩ := hd
        have f155 : l 155 = (.bool (((decide (y239.2 = 0)) && (decide (y247.2 = 0))) && (y254.getD default))) := d0 rfl
        have f158g : phG (true && ((((decide (y239.2 = 0)) && (decide (y247.2 = 0))) && (y254.getD default)) == true)) (phX (.bool (decide (y101.1 = y247.1)))) (l 158) R18q := d1 rfl
        exact gstep_plain rfl rfl rfl (ph_val (val_and f155 (fun hb => (show l 158 = (.bool (decide (y101.1 = y247.1))) from f158g.1 (gandT rfl hb))) rfl))
      · intro l R19q hle ha hd
        obtain ⟨d0, d1, _⟩ := hd
        have f159 : l 159 = (.bool ((((decide (y239.2 = 0)) && (decide (y247.2 = 0))) && (y254.getD default)) && (decide (y101.1 = y247.1)))) := d0 rfl
        exact gstep_plain rfl rfl rfl (ph_val (val_move f159))
      · intro l R20q hle ha hd
        obtain ⟨d0, d1, _⟩ := hd
        exact gstep_guard (Gj := true) (Bj := (((decide (y239.2 = 0)) && (decide (y247.2 = 0))) && (y254.getD default)) && (decide (y101.1 = y247.1))) rfl rfl rfl (gtrue (d0 rfl)) rfl (fun hG hB => ph_callP en19 rfl (c_gauntletlaw04_lives  (gop_def c257 (gandT hG hB))) (fun _ _ h => h))
      · intro l R21q hle ha hd
        obtain ⟨d0, d1, _⟩ := hd
        have f160 : l 160 = (.bool ((((decide (y239.2 = 0)) && (decide (y247.2 = 0))) && (y254.getD default)) && (decide (y101.1 = y247.1)))) := d0 rfl
        have f161g : phG (true && (((((decide (y239.2 = 0)) && (decide (y247.2 = 0))) && (y254.getD default)) && (decide (y101.1 = y247.1))) == true)) (phX (.bool (y256.getD default))) (l 161) R21q := d1 rfl
        exact gstep_plain rfl rfl rfl (ph_val (val_and f160 (fun hb => (show l 161 = (.bool (y256.getD default)) from f161g.1 (gandT rfl hb))) rfl))
      · intro l R22q hle ha hd
        obtain ⟨d0, d1, d2, d3, d4, d5, d6, d7, d8, d9, d10, d11, d12, d13, d14, d15, d16, d17, d18, d19, d20, d21, d22, d23, _⟩ := hd
        have f162 : l 162 = (.bool (((((decide (y239.2 = 0)) && (decide (y247.2 = 0))) && (y254.getD default)) && (decide (y101.1 = y247.1))) && (y256.getD default))) := d0 rfl
        exact gstep_plain rfl rfl rfl (ph_val (val_assign f162))
      intro v260 h261
      intro v262 h263
      intro v264 h265
      intro v266 h267
      intro v268 h269
      intro v270 h271
      intro v272 h273
      intro v274 h275
      intro v276 h277
      intro v278 h279
      intro v280 h281
      intro v282 h283
      intro v284 h285
      intro v286 h287
      intro v288 h289
      intro v290 h291
      intro v292 h293
      intro v294 h295
      intro v296 h297
      intro v298 h299
      intro v300 h301
      intro v302 h303
      intro v304 h305
      obtain rfl := Eq.symm h261
      obtain rfl := Eq.symm h263
      obtain rfl := Eq.symm h265
      obtain rfl := Eq.symm h271
      obtain rfl := Eq.symm h273
      obtain rfl := Eq.symm h287
      obtain rfl := Eq.symm h289
      obtain rfl := Eq.symm h297
      obtain rfl := Eq.symm h299
      obtain rfl := Eq.symm h303
      obtain rfl := Eq.symm h305
      refine wo_nil ?_
      refine wg_ret ?_
      obtain rfl := Option.some.inj hd0
      refine body_end (D := []) (J := [box b17 [(.int .i64 y11.inputs), (.int .i64 y11.outputs), v19] 27]) (rs := [.tmp 6]) (vs := [(.bool (((((decide (y239.2 = 0)) && (decide (y247.2 = 0))) && (y254.getD default)) && (decide (y101.1 = y247.1))) && (y256.getD default)))]) (((((((((((le4.trans le8).trans le16).trans le26).trans le58).trans le90).trans le98).trans le104).trans le132).trans le244).trans le252).trans le259) rfl rfl ⟨rfl, trivial⟩ ?_
      exact ⟨rfl, rfl⟩
theorem c_gauntletlaw04_great {N : Nat} {R : RH} {m : Mach} {v_m : Value} (h_m : VRep (kMach false false) R v_m m) {r : Int} (hd0 : gauntletlaw04_great N m = some r) : CallP Try.prog 29 #[v_m] R (fun v R' => v = (.int .i64 r)) := by
  refine callP_of_wg (args := [v_m]) Try.func29 rfl rfl fun A => ?_
  rw [gauntletlaw04_great] at hd0
  refine wg_seq ?_
  refine wg_region ?_
  refine wo_boxR (T := (kMach false false)) rfl rfl h_m fun v1 R3 le4 h2 => ?_
  refine wo_v rfl (val_assign (v := (.int .i64 0)) rfl) ?_
  refine wo_nil ?_
  refine wg_seq ?_
  refine wg_seq ?_
  refine wg_region ?_
  refine wo_fieldR rfl fd27_2 pt_Mach2 rfl h2 fun v5 h6 => ?_
  refine wo_loadR rfl ty25 rfl h6 fun v7 h8 => ?_
  refine wo_v rfl (val_lenR rfl Try.underlying25 rfl (sl_s h8)) ?_
  refine wo_v rfl (val_gtr rfl rfl) ?_
  refine wo_nil ?_
  refine wg_cond rfl (fun e9 => ?_) (fun e9 => ?_)
  · replace hd0 := sel_t e9 hd0; clear e9
    refine wg_seq ?_
    refine wg_region ?_
    refine wo_v rfl (val_assign (v := (.int .i64 1)) rfl) ?_
    refine wo_nil ?_
    refine wg_ret ?_
    obtain rfl := Option.some.inj hd0
    refine body_end (D := []) (J := []) (rs := [.tmp 2]) (vs := [(.int .i64 1)]) le4 rfl rfl ⟨rfl, trivial⟩ ?_
    exact ⟨rfl, rfl⟩
  · replace hd0 := sel_f e9 hd0; clear e9
    refine wg_skip ?_
    replace hd0 := bd_some hd0; obtain ⟨q11, hd1, hd0⟩ := hd0
    refine wg_meet (γ := Unit) true [3, 8, 9, 10, 11, 12, 15, 16, 17, 18, 19, 20, 21, 2, 13, 14] (fun g => []) (fun g => [] ++ A) (fun g R => q11 = Ex.go g ∧ True) ?_ ?_
    ·
      refine wg_seq ?_
      refine wg_region ?_
      refine wo_v rfl (val_assign (v := (.int .i64 0)) rfl) ?_
      refine wo_nil ?_
      refine wg_block ?_
      refine wg_loopS (γ := Nat × Int) true [8, 9, 10, 11, 12, 15, 16, 17, 18, 19, 20, 21, 2, 13, 14, 3] (fun g => [(3, (.int .i64 g.2))]) (fun g => [] ++ A) (fun g R => gauntletlaw04_great_L1 N m g.1 g.2 = some q11 ∧ True) (fun g => g.1) (N, 0) ⟨rfl, trivial⟩ ⟨[], List.Perm.refl _⟩ ⟨hd1, trivial⟩ (fun _ => rfl) ?_
      clear hd1
      rintro ⟨F14, x15⟩ j34 D35 R16 hD36 le17 ⟨hd1, _⟩
      obtain rfl := hD36 rfl
      rcases F14 with _ | F14
      · exact none_elim hd1
      replace hd1 : gauntletlaw04_great_L1 N m (F14 + 1) x15 = some q11 := hd1; rw [gauntletlaw04_great_L1] at hd1
      refine wg_seq ?_
      refine wg_seq ?_
      refine wg_region ?_
      refine wo_v rfl (val_move (v := (.int .i64 x15)) rfl) ?_
      refine wo_fieldR rfl fd27_2 pt_Mach2 rfl (h2.mono le17) fun v18 h19 => ?_
      refine wo_loadR rfl ty25 rfl h19 fun v20 h21 => ?_
      refine wo_v rfl (val_lenR rfl Try.underlying25 rfl (sl_s h21)) ?_
      refine wo_v rfl (val_lss rfl rfl) ?_
      refine wo_nil ?_
      refine wg_cond rfl (fun e22 => ?_) (fun e22 => ?_)
      · replace hd1 := sel_t e22 hd1; clear e22
        refine wg_skip ?_
        refine wg_seq ?_
        refine wg_block ?_
        refine wg_seq ?_
        refine wg_region ?_
        refine wo_fieldR rfl fd27_2 pt_Mach2 rfl (h2.mono le17) fun v23 h24 => ?_
        refine wo_loadR rfl ty25 rfl h24 fun v25 h26 => ?_
        refine wo_v rfl (val_move (v := (.int .i64 x15)) rfl) ?_
        have g27 := (gd_some hd1).1; replace hd1 := (gd_some hd1).2
        refine wo_indexR (i := x15.toNat) rfl sl25 rfl (sl_s h26) (idx_nonneg rfl g27.1) (okI_lt g27) fun v28 h29 => ?_
        refine wo_loadR rfl ty41 rfl h29 fun v30 h31 => ?_
        refine wo_v rfl (val_lenR rfl Try.underlying41 rfl (sl_s h31)) ?_
        refine wo_v rfl (val_gtr rfl rfl) ?_
        refine wo_nil ?_
        refine wg_cond rfl (fun e32 => ?_) (fun e32 => ?_)
        · replace hd1 := sel_t e32 hd1; clear e32
          refine wg_seq ?_
          refine wg_region ?_
          refine wo_v rfl (val_assign (v := (.int .i64 1)) rfl) ?_
          refine wo_nil ?_
          refine wg_ret ?_
          replace hd0 := on_rt hd1 hd0
          obtain rfl := Option.some.inj hd0
          refine body_end (D := []) (J := []) (rs := [.tmp 2]) (vs := [(.int .i64 1)]) (le4.trans le17) rfl rfl ⟨rfl, trivial⟩ ?_
          exact ⟨rfl, rfl⟩
        · replace hd1 := sel_f e32 hd1; clear e32
          refine wg_skip ?_
          refine wg_region ?_
          refine wo_v rfl (val_move (v := (.int .i64 x15)) rfl) ?_
          have g33 := (gd_some hd1).1; replace hd1 := (gd_some hd1).2
          refine wo_v rfl (val_add rfl rfl g33) ?_
          refine wo_v rfl (val_assign (v := (.int .i64 (x15 + 1))) rfl) ?_
          refine wo_nil ?_
          exact ⟨(fun _ => rfl), (RH.le.refl _), (by repeat (first | exact off_self | refine off_upd rfl ?_ | refine off_setl rfl ?_ | refine off_mask_sub rfl ?_)), (F14, x15 + 1), Nat.lt_succ_self _, ⟨rfl, trivial⟩, ⟨[], List.Perm.refl _⟩, hd1, trivial⟩
      · replace hd1 := sel_f e22 hd1; clear e22
        refine wg_exit ?_
        exact ⟨(fun _ => rfl), le17, (by repeat (first | exact off_self | refine off_upd rfl ?_ | refine off_setl rfl ?_ | refine off_mask_sub rfl ?_)), (), trivial, ⟨[], List.Perm.refl _⟩, (Option.some.inj hd1).symm, trivial⟩
    ·
      rintro o10 j37 D38 R12 hD39 le13 ⟨rfl, _⟩
      obtain rfl := hD39 rfl
      replace hd0 := on_go hd0
      refine wg_seq ?_
      refine wg_region ?_
      refine wo_v rfl (val_assign (v := (.int .i64 0)) rfl) ?_
      refine wo_nil ?_
      refine wg_ret ?_
      obtain rfl := Option.some.inj hd0
      refine body_end (D := []) (J := []) (rs := [.tmp 2]) (vs := [(.int .i64 0)]) (le4.trans le13) rfl rfl ⟨rfl, trivial⟩ ?_
      exact ⟨rfl, rfl⟩
end GV
end Go.Proofs.Ytohjnbajgbdhhaa
