/- The walks of the functions; printed. -/
import Derived.Test.YtohjnbajgbdhhaaShWb
import Derived.Test.YtohjnbajgbdhhaaRows
namespace Go.Proofs.Ytohjnbajgbdhhaa
namespace GV
open Go.IntWalk
set_option linter.unusedVariables false
set_option linter.unusedSimpArgs false
set_option maxRecDepth 100000
set_option maxHeartbeats 2000000
theorem en33 : Enters Try.prog 33 := enters_of Try.func33 rfl (by kernel_rfl)
theorem c_gauntletref01_Compare {N : Nat} {R : RH} {a : (List Int)} {v_a : Value} (h_a : VRep (tSl false (tInt .i64)) R v_a a) {b : (List Int)} {v_b : Value} (h_b : VRep (tSl false (tInt .i64)) R v_b b) {r : Int} (hd0 : gauntletref01_Compare N a b = some r) : CallP Try.prog 46 #[v_a, v_b] R (fun v R' => v = (.int .i64 r)) := by
  refine callP_of_wg (args := [v_a, v_b]) Try.func46 rfl rfl fun A => ?_
  rw [gauntletref01_Compare] at hd0
  refine wg_seq ?_
  refine wg_region ?_
  refine wo_v rfl (val_assign (v := (.int .i64 0)) rfl) ?_
  refine wo_nil ?_
  refine wg_seq ?_
  refine wg_seq ?_
  refine wg_region ?_
  refine wo_v rfl (val_move (v := v_a) rfl) ?_
  refine wo_v rfl (val_lenR rfl Try.underlying49 rfl (sl_s h_a)) ?_
  refine wo_v rfl (val_move (v := v_b) rfl) ?_
  refine wo_v rfl (val_lenR rfl Try.underlying49 rfl (sl_s h_b)) ?_
  refine wo_v rfl (val_lss rfl rfl) ?_
  refine wo_nil ?_
  refine wg_cond rfl (fun e1 => ?_) (fun e1 => ?_)
  · replace hd0 := sel_t e1 hd0; clear e1
    refine wg_seq ?_
    refine wg_region ?_
    refine wo_v rfl (val_assign (v := (.int .i64 (-1))) rfl) ?_
    refine wo_nil ?_
    refine wg_ret ?_
    obtain rfl := Option.some.inj hd0
    refine body_end (D := []) (J := []) (rs := [.tmp 4]) (vs := [(.int .i64 (-1))]) (RH.le.refl _) rfl rfl ⟨rfl, trivial⟩ ?_
    exact ⟨rfl, rfl⟩
  · replace hd0 := sel_f e1 hd0; clear e1
    refine wg_skip ?_
    refine wg_seq ?_
    refine wg_seq ?_
    refine wg_region ?_
    refine wo_v rfl (val_move (v := v_a) rfl) ?_
    refine wo_v rfl (val_lenR rfl Try.underlying49 rfl (sl_s h_a)) ?_
    refine wo_v rfl (val_move (v := v_b) rfl) ?_
    refine wo_v rfl (val_lenR rfl Try.underlying49 rfl (sl_s h_b)) ?_
    refine wo_v rfl (val_gtr rfl rfl) ?_
    refine wo_nil ?_
    refine wg_cond rfl (fun e2 => ?_) (fun e2 => ?_)
    · replace hd0 := sel_t e2 hd0; clear e2
      refine wg_seq ?_
      refine wg_region ?_
      refine wo_v rfl (val_assign (v := (.int .i64 1)) rfl) ?_
      refine wo_nil ?_
      refine wg_ret ?_
      obtain rfl := Option.some.inj hd0
      refine body_end (D := []) (J := []) (rs := [.tmp 4]) (vs := [(.int .i64 1)]) (RH.le.refl _) rfl rfl ⟨rfl, trivial⟩ ?_
      exact ⟨rfl, rfl⟩
    · replace hd0 := sel_f e2 hd0; clear e2
      refine wg_skip ?_
      replace hd0 := bd_some hd0; obtain ⟨q4, hd1, hd0⟩ := hd0
      refine wg_meet (γ := Unit) true [5, 16, 17, 18, 19, 22, 23, 24, 25, 26, 27, 28, 29, 30, 4, 31, 32, 33, 34, 35, 36, 37, 38, 39, 20, 21] (fun g => []) (fun g => [] ++ A) (fun g R => q4 = Ex.go g ∧ True) ?_ ?_
      ·
        refine wg_seq ?_
        refine wg_region ?_
        refine wo_v rfl (val_assign (v := (.int .i64 0)) rfl) ?_
        refine wo_nil ?_
        refine wg_block ?_
        refine wg_loopS (γ := Nat × Int) true [16, 17, 18, 19, 22, 23, 24, 25, 26, 27, 28, 29, 30, 4, 31, 32, 33, 34, 35, 36, 37, 38, 39, 20, 21, 5] (fun g => [(5, (.int .i64 g.2))]) (fun g => [] ++ A) (fun g R => gauntletref01_Compare_L1 N a b g.1 g.2 = some q4 ∧ True) (fun g => g.1) (N, 0) ⟨rfl, trivial⟩ ⟨[], List.Perm.refl _⟩ ⟨hd1, trivial⟩ (fun _ => rfl) ?_
        clear hd1
        rintro ⟨F7, x8⟩ j59 D60 R9 hD61 le10 ⟨hd1, _⟩
        obtain rfl := hD61 rfl
        rcases F7 with _ | F7
        · exact none_elim hd1
        replace hd1 : gauntletref01_Compare_L1 N a b (F7 + 1) x8 = some q4 := hd1; rw [gauntletref01_Compare_L1] at hd1
        refine wg_seq ?_
        refine wg_seq ?_
        refine wg_region ?_
        refine wo_v rfl (val_move (v := (.int .i64 x8)) rfl) ?_
        refine wo_v rfl (val_move (v := v_a) rfl) ?_
        refine wo_v rfl (val_lenR rfl Try.underlying49 rfl (sl_s (h_a.mono le10))) ?_
        refine wo_v rfl (val_lss rfl rfl) ?_
        refine wo_nil ?_
        refine wg_cond rfl (fun e11 => ?_) (fun e11 => ?_)
        · replace hd1 := sel_t e11 hd1; clear e11
          refine wg_skip ?_
          refine wg_seq ?_
          refine wg_block ?_
          refine wg_seq ?_
          refine wg_seq ?_
          have g12 := (gd_some hd1).1; replace hd1 := (gd_some hd1).2
          have g13 := (gd_some hd1).1; replace hd1 := (gd_some hd1).2
          refine wg_drawn 9 [] [phX v_a, phX (.int .i64 x8), phP (tInt .i64) (ix a x8), phX (.int .i64 (ix a x8)), phX v_b, phX (.int .i64 x8), phP (tInt .i64) (ix b x8), phX (.int .i64 (ix b x8)), phX (.bool (decide ((ix a x8) < (ix b x8))))] mixed (by kernel_rfl) (monoOk_of ⟨mono_x, mono_x, mono_p, mono_x, mono_x, mono_x, mono_p, mono_x, mono_x, trivial⟩) ⟨?_, ?_, ?_, ?_, ?_, ?_, ?_, ?_, ?_, trivial⟩ fun R14 le15 => ?_
          · intro l R0q hle ha hd
            have a0 : l 0 = v_a := ha 0 rfl
            exact gstep_plain rfl rfl rfl (ph_val (val_move a0))
          · intro l R1q hle ha hd
            have a5 : l 5 = (.int .i64 x8) := ha 5 rfl
            exact gstep_plain rfl rfl rfl (ph_val (val_move a5))
          · intro l R2q hle ha hd
            obtain ⟨d0, d1, _⟩ := hd
            have f22 : l 22 = v_a := d0 rfl
            have f23 : l 23 = (.int .i64 x8) := d1 rfl
            exact gstep_plain rfl rfl rfl (ph_indexR (i := x8.toNat) sl49 f22 (sl_s ((h_a.mono le10).mono hle)) (idx_nonneg f23 g12.1) (okI_lt g12))
          · intro l R3q hle ha hd
            obtain ⟨d0, _⟩ := hd
            have f24 : phP (tInt .i64) (ix a x8) (l 24) R3q := d0 rfl
            exact gstep_plain rfl rfl rfl (ph_exact (ph_loadR ty3 rfl f24) (fun _ _ h => vrep_int.1 h))
          · intro l R4q hle ha hd
            have a1 : l 1 = v_b := ha 1 rfl
            exact gstep_plain rfl rfl rfl (ph_val (val_move a1))
          · intro l R5q hle ha hd
            have a5 : l 5 = (.int .i64 x8) := ha 5 rfl
            exact gstep_plain rfl rfl rfl (ph_val (val_move a5))
          · intro l R6q hle ha hd
            obtain ⟨d0, d1, _⟩ := hd
            have f26 : l 26 = v_b := d0 rfl
            have f27 : l 27 = (.int .i64 x8) := d1 rfl
            exact gstep_plain rfl rfl rfl (ph_indexR (i := x8.toNat) sl49 f26 (sl_s ((h_b.mono le10).mono hle)) (idx_nonneg f27 g13.1) (okI_lt g13))
          · intro l R7q hle ha hd
            obtain ⟨d0, _⟩ := hd
            have f28 : phP (tInt .i64) (ix b x8) (l 28) R7q := d0 rfl
            exact gstep_plain rfl rfl rfl (ph_exact (ph_loadR ty3 rfl f28) (fun _ _ h => vrep_int.1 h))
          · intro l R8q hle ha hd
            obtain ⟨d0, d1, _⟩ := hd
            have f25 : l 25 = (.int .i64 (ix a x8)) := d0 rfl
            have f29 : l 29 = (.int .i64 (ix b x8)) := d1 rfl
            exact gstep_plain rfl rfl rfl (ph_val (val_lss f25 f29))
          intro v16 h17
          intro v18 h19
          intro v20 h21
          intro v22 h23
          intro v24 h25
          intro v26 h27
          intro v28 h29
          intro v30 h31
          intro v32 h33
          obtain rfl := Eq.symm h17
          obtain rfl := Eq.symm h19
          obtain rfl := Eq.symm h23
          obtain rfl := Eq.symm h25
          obtain rfl := Eq.symm h27
          obtain rfl := Eq.symm h31
          obtain rfl := Eq.symm h33
          refine wo_nil ?_
          refine wg_cond rfl (fun e34 => ?_) (fun e34 => ?_)
          · replace hd1 := sel_t e34 hd1; clear e34
            refine wg_seq ?_
            refine wg_region ?_
            refine wo_v rfl (val_assign (v := (.int .i64 (-1))) rfl) ?_
            refine wo_nil ?_
            refine wg_ret ?_
            replace hd0 := on_rt hd1 hd0
            obtain rfl := Option.some.inj hd0
            refine body_end (D := []) (J := []) (rs := [.tmp 4]) (vs := [(.int .i64 (-1))]) (le10.trans le15) rfl rfl ⟨rfl, trivial⟩ ?_
            exact ⟨rfl, rfl⟩
          · replace hd1 := sel_f e34 hd1; clear e34
            refine wg_skip ?_
            refine wg_seq ?_
            have g35 := (gd_some hd1).1; replace hd1 := (gd_some hd1).2
            have g36 := (gd_some hd1).1; replace hd1 := (gd_some hd1).2
            refine wg_drawn 9 [] [phX v_a, phX (.int .i64 x8), phP (tInt .i64) (ix a x8), phX (.int .i64 (ix a x8)), phX v_b, phX (.int .i64 x8), phP (tInt .i64) (ix b x8), phX (.int .i64 (ix b x8)), phX (.bool (decide ((ix b x8) < (ix a x8))))] mixed (by kernel_rfl) (monoOk_of ⟨mono_x, mono_x, mono_p, mono_x, mono_x, mono_x, mono_p, mono_x, mono_x, trivial⟩) ⟨?_, ?_, ?_, ?_, ?_, ?_, ?_, ?_, ?_, trivial⟩ fun R37 le38 => ?_
            · intro l R0q hle ha hd
              have a0 : l 0 = v_a := ha 0 rfl
              exact gstep_plain rfl rfl rfl (ph_val (val_move a0))
            · intro l R1q hle ha hd
              have a5 : l 5 = (.int .i64 x8) := ha 5 rfl
              exact gstep_plain rfl rfl rfl (ph_val (val_move a5))
            · intro l R2q hle ha hd
              obtain ⟨d0, d1, _⟩ := hd
              have f31 : l 31 = v_a := d0 rfl
              have f32 : l 32 = (.int .i64 x8) := d1 rfl
              exact gstep_plain rfl rfl rfl (ph_indexR (i := x8.toNat) sl49 f31 (sl_s ((h_a.mono (le10.trans le15)).mono hle)) (idx_nonneg f32 g35.1) (okI_lt g35))
            · intro l R3q hle ha hd
              obtain ⟨d0, _⟩ := hd
              have f33 : phP (tInt .i64) (ix a x8) (l 33) R3q := d0 rfl
              exact gstep_plain rfl rfl rfl (ph_exact (ph_loadR ty3 rfl f33) (fun _ _ h => vrep_int.1 h))
            · intro l R4q hle ha hd
              have a1 : l 1 = v_b := ha 1 rfl
              exact gstep_plain rfl rfl rfl (ph_val (val_move a1))
            · intro l R5q hle ha hd
              have a5 : l 5 = (.int .i64 x8) := ha 5 rfl
              exact gstep_plain rfl rfl rfl (ph_val (val_move a5))
            · intro l R6q hle ha hd
              obtain ⟨d0, d1, _⟩ := hd
              have f35 : l 35 = v_b := d0 rfl
              have f36 : l 36 = (.int .i64 x8) := d1 rfl
              exact gstep_plain rfl rfl rfl (ph_indexR (i := x8.toNat) sl49 f35 (sl_s ((h_b.mono (le10.trans le15)).mono hle)) (idx_nonneg f36 g36.1) (okI_lt g36))
            · intro l R7q hle ha hd
              obtain ⟨d0, _⟩ := hd
              have f37 : phP (tInt .i64) (ix b x8) (l 37) R7q := d0 rfl
              exact gstep_plain rfl rfl rfl (ph_exact (ph_loadR ty3 rfl f37) (fun _ _ h => vrep_int.1 h))
            · intro l R8q hle ha hd
              obtain ⟨d0, d1, _⟩ := hd
              have f34 : l 34 = (.int .i64 (ix a x8)) := d0 rfl
              have f38 : l 38 = (.int .i64 (ix b x8)) := d1 rfl
              exact gstep_plain rfl rfl rfl (ph_val (val_gtr f34 f38))
            intro v39 h40
            intro v41 h42
            intro v43 h44
            intro v45 h46
            intro v47 h48
            intro v49 h50
            intro v51 h52
            intro v53 h54
            intro v55 h56
            obtain rfl := Eq.symm h40
            obtain rfl := Eq.symm h42
            obtain rfl := Eq.symm h46
            obtain rfl := Eq.symm h48
            obtain rfl := Eq.symm h50
            obtain rfl := Eq.symm h54
            obtain rfl := Eq.symm h56
            refine wo_nil ?_
            refine wg_cond rfl (fun e57 => ?_) (fun e57 => ?_)
            · replace hd1 := sel_t e57 hd1; clear e57
              refine wg_seq ?_
              refine wg_region ?_
              refine wo_v rfl (val_assign (v := (.int .i64 1)) rfl) ?_
              refine wo_nil ?_
              refine wg_ret ?_
              replace hd0 := on_rt hd1 hd0
              obtain rfl := Option.some.inj hd0
              refine body_end (D := []) (J := []) (rs := [.tmp 4]) (vs := [(.int .i64 1)]) ((le10.trans le15).trans le38) rfl rfl ⟨rfl, trivial⟩ ?_
              exact ⟨rfl, rfl⟩
            · replace hd1 := sel_f e57 hd1; clear e57
              refine wg_skip ?_
              refine wg_region ?_
              refine wo_v rfl (val_move (v := (.int .i64 x8)) rfl) ?_
              have g58 := (gd_some hd1).1; replace hd1 := (gd_some hd1).2
              refine wo_v rfl (val_add rfl rfl g58) ?_
              refine wo_v rfl (val_assign (v := (.int .i64 (x8 + 1))) rfl) ?_
              refine wo_nil ?_
              exact ⟨(fun _ => rfl), (le15.trans le38), (by repeat (first | exact off_self | refine off_upd rfl ?_ | refine off_setl rfl ?_ | refine off_mask_sub rfl ?_)), (F7, x8 + 1), Nat.lt_succ_self _, ⟨rfl, trivial⟩, ⟨[], List.Perm.refl _⟩, hd1, trivial⟩
        · replace hd1 := sel_f e11 hd1; clear e11
          refine wg_exit ?_
          exact ⟨(fun _ => rfl), le10, (by repeat (first | exact off_self | refine off_upd rfl ?_ | refine off_setl rfl ?_ | refine off_mask_sub rfl ?_)), (), trivial, ⟨[], List.Perm.refl _⟩, (Option.some.inj hd1).symm, trivial⟩
      ·
        rintro o3 j62 D63 R5 hD64 le6 ⟨rfl, _⟩
        obtain rfl := hD64 rfl
        replace hd0 := on_go hd0
        refine wg_seq ?_
        refine wg_region ?_
        refine wo_v rfl (val_assign (v := (.int .i64 0)) rfl) ?_
        refine wo_nil ?_
        refine wg_ret ?_
        obtain rfl := Option.some.inj hd0
        refine body_end (D := []) (J := []) (rs := [.tmp 4]) (vs := [(.int .i64 0)]) le6 rfl rfl ⟨rfl, trivial⟩ ?_
        exact ⟨rfl, rfl⟩
theorem en46 : Enters Try.prog 46 := enters_of Try.func46 rfl (by kernel_rfl)
theorem c_gauntletref01_Same {N : Nat} {R : RH} {a : (List Int)} {v_a : Value} (h_a : VRep (tSl false (tInt .i64)) R v_a a) {b : (List Int)} {v_b : Value} (h_b : VRep (tSl false (tInt .i64)) R v_b b) {r : Bool} (hd0 : gauntletref01_Same N a b = some r) : CallP Try.prog 28 #[v_a, v_b] R (fun v R' => v = (.bool r)) := by
  refine callP_of_wg (args := [v_a, v_b]) Try.func28 rfl rfl fun A => ?_
  rw [gauntletref01_Same] at hd0
  refine wg_seq ?_
  refine wg_region ?_
  refine wo_v rfl (val_assign (v := (.bool false)) rfl) ?_
  refine wo_nil ?_
  refine wg_seq ?_
  refine wg_region ?_
  refine wo_v rfl (val_move (v := v_a) rfl) ?_
  refine wo_v rfl (val_move (v := v_b) rfl) ?_
  replace hd0 := bd_some hd0; obtain ⟨y1, c2, hd0⟩ := hd0
  refine wo_callP rfl en46 rfl (c_gauntletref01_Compare h_a h_b c2) fun v3 R5 le6 h4 => ?_
  obtain rfl := h4
  refine wo_v rfl (val_eql rfl rfl) ?_
  refine wo_v rfl (val_assign (v := (.bool (decide (y1 = 0)))) rfl) ?_
  refine wo_nil ?_
  refine wg_ret ?_
  obtain rfl := Option.some.inj hd0
  refine body_end (D := []) (J := []) (rs := [.tmp 4]) (vs := [(.bool (decide (y1 = 0)))]) le6 rfl rfl ⟨rfl, trivial⟩ ?_
  exact ⟨rfl, rfl⟩
theorem en28 : Enters Try.prog 28 := enters_of Try.func28 rfl (by kernel_rfl)
theorem c_gauntletlaw04_list {N : Nat} {R : RH} {l_ : (List Int)} {v_l_ : Value} (h_l_ : VRep (tSl true (tInt .i64)) R v_l_ l_) {e : Int} {want : (List Int)} {v_want : Value} (h_want : VRep (tSl false (tInt .i64)) R v_want want) {f : Int} {r : Bool} (hd0 : gauntletlaw04_list N l_ e want f = some r) : CallP Try.prog 23 #[v_l_, (.int .i64 e), v_want, (.int .i64 f)] R (fun v R' => v = (.bool r)) := by
  refine callP_of_wg (args := [v_l_, (.int .i64 e), v_want, (.int .i64 f)]) Try.func23 rfl rfl fun A => ?_
  rw [gauntletlaw04_list] at hd0
  refine wg_seq ?_
  refine wg_region ?_
  refine wo_v rfl (val_assign (v := (.bool false)) rfl) ?_
  refine wo_nil ?_
  refine wg_seq ?_
  replace hd0 := bd_some hd0; obtain ⟨y1, c2, hd0⟩ := hd0
  refine wg_guarded 16 [] [phX (.int .i64 e), phX (.int .i64 f), phX (.bool (decide (e = f))), phX (.bool (decide (e = f))), phG (true && ((decide (e = f)) == true)) (phX v_l_), phG (true && ((decide (e = f)) == true)) (phX v_want), phG (true && ((decide (e = f)) == true)) (phX (.bool (y1.getD default))), phX (.bool ((decide (e = f)) && (y1.getD default))), phX (.bool ((decide (e = f)) && (y1.getD default))), phG (true && (((decide (e = f)) && (y1.getD default)) == true)) (phX v_l_), phG (true && (((decide (e = f)) && (y1.getD default)) == true)) (phX (.int .i64 (↑l_.length : Int))), phG (true && (((decide (e = f)) && (y1.getD default)) == true)) (phX v_l_), phG (true && (((decide (e = f)) && (y1.getD default)) == true)) (phX (.int .i64 (↑l_.length : Int))), phG (true && (((decide (e = f)) && (y1.getD default)) == true)) (phX (.bool (decide ((↑l_.length : Int) = (↑l_.length : Int))))), phX (.bool (((decide (e = f)) && (y1.getD default)) && (decide ((↑l_.length : Int) = (↑l_.length : Int))))), phX (.bool (((decide (e = f)) && (y1.getD default)) && (decide ((↑l_.length : Int) = (↑l_.length : Int)))))] (by kernel_rfl) (by kernel_rfl) (monoOk_of ⟨mono_x, mono_x, mono_x, mono_x, (mono_g mono_x), (mono_g mono_x), (mono_g mono_x), mono_x, mono_x, (mono_g mono_x), (mono_g mono_x), (mono_g mono_x), (mono_g mono_x), (mono_g mono_x), mono_x, mono_x, trivial⟩) ⟨?_, ?_, ?_, ?_, ?_, ?_, ?_, ?_, ?_, ?_, ?_, ?_, ?_, ?_, ?_, ?_, trivial⟩ fun R3 le4 => ?_
  · intro l R0q hle ha hd
    have a1 : l 1 = (.int .i64 e) := ha 1 rfl
    exact gstep_plain rfl rfl rfl (ph_val (val_move a1))
  · intro l R1q hle ha hd
    have a3 : l 3 = (.int .i64 f) := ha 3 rfl
    exact gstep_plain rfl rfl rfl (ph_val (val_move a3))
  · intro l R2q hle ha hd
    obtain ⟨d0, d1, _⟩ := hd
    have f9 : l 9 = (.int .i64 e) := d0 rfl
    have f10 : l 10 = (.int .i64 f) := d1 rfl
    exact gstep_plain rfl rfl rfl (ph_val (val_eql f9 f10))
  · intro l R3q hle ha hd
    obtain ⟨d0, _⟩ := hd
    have f11 : l 11 = (.bool (decide (e = f))) := d0 rfl
    exact gstep_plain rfl rfl rfl (ph_val (val_move f11))
  · intro l R4q hle ha hd
    obtain ⟨d0, _⟩ := hd
    have a0 : l 0 = v_l_ := ha 0 rfl
    exact gstep_guard (Gj := true) (Bj := decide (e = f)) rfl rfl rfl (gtrue (d0 rfl)) rfl (fun hG hB => ph_val (val_move a0))
  · intro l R5q hle ha hd
    obtain ⟨d0, _⟩ := hd
    have a2 : l 2 = v_want := ha 2 rfl
    exact gstep_guard (Gj := true) (Bj := decide (e = f)) rfl rfl rfl (gtrue (d0 rfl)) rfl (fun hG hB => ph_val (val_move a2))
  · intro l R6q hle ha hd
    obtain ⟨d0, d1, d2, d3, _⟩ := hd
    have f13g : phG (true && ((decide (e = f)) == true)) (phX v_l_) (l 13) R6q := d0 rfl
    have f14g : phG (true && ((decide (e = f)) == true)) (phX v_want) (l 14) R6q := d1 rfl
    exact gstep_guard (Gj := true) (Bj := decide (e = f)) rfl rfl rfl (gtrue (d2 rfl)) rfl (fun hG hB => ph_callP en28 (by simp only [List.map, ev, (show l 13 = v_l_ from f13g.1 (gandT rfl hB)), (show l 14 = v_want from f14g.1 (gandT rfl hB))] <;> rfl) (c_gauntletref01_Same (Sub.v (B := (tSl false (tInt .i64))) (sub_sl Sub.refl (fun _ => rfl)) (h_l_.mono hle)) (h_want.mono hle) (gop_def c2 (gandT hG hB))) (fun _ _ h => h))
  · intro l R7q hle ha hd
    obtain ⟨d0, d1, _⟩ := hd
    have f12 : l 12 = (.bool (decide (e = f))) := d0 rfl
    have f15g : phG (true && ((decide (e = f)) == true)) (phX (.bool (y1.getD default))) (l 15) R7q := d1 rfl
    exact gstep_plain rfl rfl rfl (ph_val (val_and f12 (fun hb => (show l 15 = (.bool (y1.getD default)) from f15g.1 (gandT rfl hb))) rfl))
  · intro l R8q hle ha hd
    obtain ⟨d0, d1, _⟩ := hd
    have f16 : l 16 = (.bool ((decide (e = f)) && (y1.getD default))) := d0 rfl
    exact gstep_plain rfl rfl rfl (ph_val (val_move f16))
  · intro l R9q hle ha hd
    obtain ⟨d0, _⟩ := hd
    have a0 : l 0 = v_l_ := ha 0 rfl
    exact gstep_guard (Gj := true) (Bj := (decide (e = f)) && (y1.getD default)) rfl rfl rfl (gtrue (d0 rfl)) rfl (fun hG hB => ph_val (val_move a0))
  · intro l R10q hle ha hd
    obtain ⟨d0, d1, _⟩ := hd
    have f18g : phG (true && (((decide (e = f)) && (y1.getD default)) == true)) (phX v_l_) (l 18) R10q := d0 rfl
    exact gstep_guard (Gj := true) (Bj := (decide (e = f)) && (y1.getD default)) rfl rfl rfl (gtrue (d1 rfl)) rfl (fun hG hB => ph_val (val_capT rfl Try.underlying49 (show l 18 = v_l_ from f18g.1 (gandT rfl hB)) (h_l_.mono hle)))
  · intro l R11q hle ha hd
    obtain ⟨d0, _⟩ := hd
    have a0 : l 0 = v_l_ := ha 0 rfl
    exact gstep_guard (Gj := true) (Bj := (decide (e = f)) && (y1.getD default)) rfl rfl rfl (gtrue (d0 rfl)) rfl (fun hG hB => ph_val (val_move a0))
  · intro l R12q hle ha hd
    obtain ⟨d0, d1, _⟩ := hd
    have f20g : phG (true && (((decide (e = f)) && (y1.getD default)) == true)) (phX v_l_) (l 20) R12q := d0 rfl
    exact gstep_guard (Gj := true) (Bj := (decide (e = f)) && (y1.getD default)) rfl rfl rfl (gtrue (d1 rfl)) rfl (fun hG hB => ph_val (val_lenR rfl Try.underlying49 (show l 20 = v_l_ from f20g.1 (gandT rfl hB)) (sl_s (h_l_.mono hle))))
  · intro l R13q hle ha hd
    obtain ⟨d0, d1, d2, _⟩ := hd
    have f19g : phG (true && (((decide (e = f)) && (y1.getD default)) == true)) (phX (.int .i64 (↑l_.length : Int))) (l 19) R13q := d0 rfl
    have f21g : phG (true && (((decide (e = f)) && (y1.getD default)) == true)) (phX (.int .i64 (↑l_.length : Int))) (l 21) R13q := d1 rfl
    exact gstep_guard (Gj := true) (Bj := (decide (e = f)) && (y1.getD default)) rfl rfl rfl (gtrue (d2 rfl)) rfl (fun hG hB => ph_val (val_eql (show l 19 = (.int .i64 (↑l_.length : Int)) from f19g.1 (gandT rfl hB)) (show l 21 = (.int .i64 (↑l_.length : Int)) from f21g.1 (gandT rfl hB))))
  · intro l R14q hle ha hd
    obtain ⟨d0, d1, _⟩ := hd
    have f17 : l 17 = (.bool ((decide (e = f)) && (y1.getD default))) := d0 rfl
    have f22g : phG (true && (((decide (e = f)) && (y1.getD default)) == true)) (phX (.bool (decide ((↑l_.length : Int) = (↑l_.length : Int))))) (l 22) R14q := d1 rfl
    exact gstep_plain rfl rfl rfl (ph_val (val_and f17 (fun hb => (show l 22 = (.bool (decide ((↑l_.length : Int) = (↑l_.length : Int)))) from f22g.1 (gandT rfl hb))) rfl))
  · intro l R15q hle ha hd
    obtain ⟨d0, d1, d2, d3, d4, d5, d6, d7, d8, d9, d10, d11, d12, d13, d14, d15, d16, _⟩ := hd
    have f23 : l 23 = (.bool (((decide (e = f)) && (y1.getD default)) && (decide ((↑l_.length : Int) = (↑l_.length : Int))))) := d0 rfl
    exact gstep_plain rfl rfl rfl (ph_val (val_assign f23))
  intro v5 h6
  intro v7 h8
  intro v9 h10
  intro v11 h12
  intro v13 h14
  intro v15 h16
  intro v17 h18
  intro v19 h20
  intro v21 h22
  intro v23 h24
  intro v25 h26
  intro v27 h28
  intro v29 h30
  intro v31 h32
  intro v33 h34
  intro v35 h36
  obtain rfl := Eq.symm h6
  obtain rfl := Eq.symm h8
  obtain rfl := Eq.symm h10
  obtain rfl := Eq.symm h12
  obtain rfl := Eq.symm h20
  obtain rfl := Eq.symm h22
  obtain rfl := Eq.symm h34
  obtain rfl := Eq.symm h36
  refine wo_nil ?_
  refine wg_ret ?_
  obtain rfl := Option.some.inj hd0
  refine body_end (D := []) (J := []) (rs := [.tmp 8]) (vs := [(.bool (((decide (e = f)) && (y1.getD default)) && (decide ((↑l_.length : Int) = (↑l_.length : Int)))))]) le4 rfl rfl ⟨rfl, trivial⟩ ?_
  exact ⟨rfl, rfl⟩
theorem en23 : Enters Try.prog 23 := enters_of Try.func23 rfl (by kernel_rfl)
theorem c_gauntletlaw04_lives {N : Nat} {R : RH}  {r : Bool} (hd0 : gauntletlaw04_lives N  = some r) : CallP Try.prog 19 #[] R (fun v R' => v = (.bool r)) := by
  refine callP_of_wg (args := []) Try.func19 rfl rfl fun A => ?_
  rw [gauntletlaw04_lives] at hd0
  refine wg_seq ?_
  refine wg_region ?_
  refine wo_v rfl (val_assign (v := (.bool false)) rfl) ?_
  refine wo_nil ?_
  refine wg_seq ?_
  refine wg_region ?_
  replace hd0 := bd_some hd0; obtain ⟨y1, c2, hd0⟩ := hd0
  refine wo_callP rfl en18 rfl (c_gauntletlaw04_edge  c2) fun v3 R5 le6 h4 => ?_
  obtain rfl := h4
  replace hd0 := bd_some hd0; obtain ⟨y7, c8, hd0⟩ := hd0
  refine wo_callP rfl en18 rfl (c_gauntletlaw04_edge  c8) fun v9 R11 le12 h10 => ?_
  obtain rfl := h10
  refine wo_lit (T := kEdge) (X := ([(⟨y1.to, y1.out⟩ : Edge), (⟨y7.to, y7.out⟩ : Edge)] : List Edge)) (ps := [(0, (enc_Edge y1)), (1, (enc_Edge y7))]) (css := [[(.int .i64 y1.to), (.int .i64 y1.out)], [(.int .i64 y7.to), (.int .i64 y7.out)]]) rfl Try.underlying41 zo40 rfl rfl (lit_reps ⟨⟨_, _, rfl, rfl, rfl⟩, ⟨_, _, rfl, rfl, rfl⟩, trivial⟩) rfl rfl (by decide) fun v13 f14 cap15 h16 => ?_
  replace hd0 := bd_some hd0; obtain ⟨y18, c19, hd0⟩ := hd0
  refine wo_callP rfl en18 rfl (c_gauntletlaw04_edge  c19) fun v20 R22 le23 h21 => ?_
  obtain rfl := h21
  replace hd0 := bd_some hd0; obtain ⟨y24, c25, hd0⟩ := hd0
  refine wo_callP rfl en18 rfl (c_gauntletlaw04_edge  c25) fun v26 R28 le29 h27 => ?_
  obtain rfl := h27
  refine wo_lit (T := kEdge) (X := ([(⟨y18.to, y18.out⟩ : Edge), (⟨y24.to, y24.out⟩ : Edge)] : List Edge)) (ps := [(0, (enc_Edge y18)), (1, (enc_Edge y24))]) (css := [[(.int .i64 y18.to), (.int .i64 y18.out)], [(.int .i64 y24.to), (.int .i64 y24.out)]]) rfl Try.underlying41 zo40 rfl rfl (lit_reps ⟨⟨_, _, rfl, rfl, rfl⟩, ⟨_, _, rfl, rfl, rfl⟩, trivial⟩) rfl rfl (by decide) fun v30 f31 cap32 h33 => ?_
  refine wo_freeze (i := 1) rfl (h16.mono (le23.trans le29)) fun R35 le36 h37 => ?_
  have h38 : VRep (tSl true kEdge) R35 v13 ([(⟨y1.to, y1.out⟩ : Edge), (⟨y7.to, y7.out⟩ : Edge)] : List Edge) := (sl_t h37 cap15)
  refine wo_freeze (i := 0) rfl (h33.mono le36) fun R39 le40 h41 => ?_
  have h42 : VRep (tSl true kEdge) R39 v30 ([(⟨y18.to, y18.out⟩ : Edge), (⟨y24.to, y24.out⟩ : Edge)] : List Edge) := (sl_t h41 cap32)
  refine wo_lit (T := (tSl true kEdge)) (X := ([([(⟨y1.to, y1.out⟩ : Edge), (⟨y7.to, y7.out⟩ : Edge)] : List Edge), ([(⟨y18.to, y18.out⟩ : Edge), (⟨y24.to, y24.out⟩ : Edge)] : List Edge)] : List (List Edge))) (ps := [(0, v13), (1, v30)]) (css := [[v13], [v30]]) rfl Try.underlying25 zo41 rfl (by simp only [List.map_cons, List.map_nil, sl_cells (h38.mono le40), sl_cells h42]; rfl) (lit_reps ⟨(rep_one rfl (h38.mono le40)), (rep_one rfl h42), trivial⟩) rfl rfl (by decide) fun v43 f44 cap45 h46 => ?_
  refine wo_v rfl (val_buildC [(0, (.int .i64 2)), (1, (.int .i64 2)), (2, (.agg #[v43]))] (ps := [(0, (.int .i64 2)), (1, (.int .i64 2)), (2, v43)]) (v := (.agg #[(.int .i64 2), (.int .i64 2), v43])) rfl (by simp only [List.map_cons, List.map_nil, orep_cells h46]; rfl) (fun w => by kernel_rfl)) ?_
  refine wo_alloc rfl za27 fun b48 => ?_
  refine wo_store (i := 0) (vs := [(.int .i64 2), (.int .i64 2), v43]) sz27 rfl rfl rfl rfl rfl rfl (one_cons rfl (one_cons rfl (one_cons (orep_one h46) one_nil))) ?_
  refine wo_nil ?_
  refine wg_seq ?_
  refine wg_region ?_
  refine wo_v rfl (val_loadBA (i := 0) ag27 sz27 rfl rfl rfl rfl) ?_
  replace hd0 := bd_some hd0; obtain ⟨y53, c54, hd0⟩ := hd0
  refine wo_lend (cs := []) (vs := [(.agg #[(.int .i64 2), (.int .i64 2), v43])]) (φ := fun v => v = .tuple #[(.bool y53.1), (.int .i64 y53.2)]) rfl en11 rfl rfl (fun R50 le51 ll52 => c_machines_Complete (⟨_, ⟨_, _, rfl, rfl, ⟨_, _, rfl, rfl, (rep_one rfl (Sub.v (B := (tSl false (tSl false kEdge))) (sub_sl (sub_sl Sub.refl (fun _ => rfl)) (fun _ => rfl)) (sl_t (t := true) (lent_o 1 rfl h46 le51 ll52) cap45)))⟩⟩, rfl⟩ : VRep (kMach false false) _ _ (⟨2, 2, ([([(⟨y1.to, y1.out⟩ : Edge), (⟨y7.to, y7.out⟩ : Edge)] : List Edge), ([(⟨y18.to, y18.out⟩ : Edge), (⟨y24.to, y24.out⟩ : Edge)] : List Edge)] : List (List Edge))⟩ : Mach)) c54) fun v55 h56 => ?_
  obtain rfl := h56
  refine wo_v rfl (val_move (v := (.tuple #[(.bool y53.1), (.int .i64 y53.2)])) rfl) ?_
  refine wo_v rfl (val_extract rfl rfl) ?_
  refine wo_v rfl (val_extract rfl rfl) ?_
  refine wo_v rfl (val_assign (v := (.bool y53.1)) rfl) ?_
  refine wo_v rfl (val_assign (v := (.int .i64 y53.2)) rfl) ?_
  refine wo_nil ?_
  refine wg_seq ?_
  refine wg_region ?_
  refine wo_v rfl (val_loadBA (i := 0) ag27 sz27 rfl rfl rfl rfl) ?_
  replace hd0 := bd_some hd0; obtain ⟨y60, c61, hd0⟩ := hd0
  refine wo_lend (cs := []) (vs := [(.agg #[(.int .i64 2), (.int .i64 2), v43])]) (φ := fun v => v = .tuple #[(.bool y60.1), (.int .i64 y60.2)]) rfl en12 rfl rfl (fun R57 le58 ll59 => c_machines_Connected (⟨_, ⟨_, _, rfl, rfl, ⟨_, _, rfl, rfl, (rep_one rfl (Sub.v (B := (tSl false (tSl false kEdge))) (sub_sl (sub_sl Sub.refl (fun _ => rfl)) (fun _ => rfl)) (sl_t (t := true) (lent_o 1 rfl h46 le58 ll59) cap45)))⟩⟩, rfl⟩ : VRep (kMach false false) _ _ (⟨2, 2, ([([(⟨y1.to, y1.out⟩ : Edge), (⟨y7.to, y7.out⟩ : Edge)] : List Edge), ([(⟨y18.to, y18.out⟩ : Edge), (⟨y24.to, y24.out⟩ : Edge)] : List Edge)] : List (List Edge))⟩ : Mach)) c61) fun v62 h63 => ?_
  obtain rfl := h63
  refine wo_v rfl (val_move (v := (.tuple #[(.bool y60.1), (.int .i64 y60.2)])) rfl) ?_
  refine wo_v rfl (val_extract rfl rfl) ?_
  refine wo_v rfl (val_extract rfl rfl) ?_
  refine wo_v rfl (val_assign (v := (.bool y60.1)) rfl) ?_
  refine wo_v rfl (val_assign (v := (.int .i64 y60.2)) rfl) ?_
  refine wo_nil ?_
  refine wg_seq ?_
  refine wg_region ?_
  refine wo_v rfl (val_loadBA (i := 0) ag27 sz27 rfl rfl rfl rfl) ?_
  replace hd0 := bd_some hd0; obtain ⟨y67, c68, hd0⟩ := hd0
  refine wo_lend (cs := []) (vs := [(.agg #[(.int .i64 2), (.int .i64 2), v43])]) (φ := fun v => v = .tuple #[(.int .i64 y67.1), (.int .i64 y67.2)]) rfl en13 rfl rfl (fun R64 le65 ll66 => c_machines_Transitions (⟨_, ⟨_, _, rfl, rfl, ⟨_, _, rfl, rfl, (rep_one rfl (Sub.v (B := (tSl false (tSl false kEdge))) (sub_sl (sub_sl Sub.refl (fun _ => rfl)) (fun _ => rfl)) (sl_t (t := true) (lent_o 1 rfl h46 le65 ll66) cap45)))⟩⟩, rfl⟩ : VRep (kMach false false) _ _ (⟨2, 2, ([([(⟨y1.to, y1.out⟩ : Edge), (⟨y7.to, y7.out⟩ : Edge)] : List Edge), ([(⟨y18.to, y18.out⟩ : Edge), (⟨y24.to, y24.out⟩ : Edge)] : List Edge)] : List (List Edge))⟩ : Mach)) c68) fun v69 h70 => ?_
  obtain rfl := h70
  refine wo_v rfl (val_move (v := (.tuple #[(.int .i64 y67.1), (.int .i64 y67.2)])) rfl) ?_
  refine wo_v rfl (val_extract rfl rfl) ?_
  refine wo_v rfl (val_extract rfl rfl) ?_
  refine wo_v rfl (val_assign (v := (.int .i64 y67.1)) rfl) ?_
  refine wo_v rfl (val_assign (v := (.int .i64 y67.2)) rfl) ?_
  refine wo_nil ?_
  refine wg_seq ?_
  refine wg_region ?_
  refine wo_v rfl (val_loadBA (i := 0) ag27 sz27 rfl rfl rfl rfl) ?_
  refine wo_freeze (i := 1) rfl h46 fun R71 le72 h73 => ?_
  have h74 : VRep (tSl true (tSl true kEdge)) R71 v43 ([([(⟨y1.to, y1.out⟩ : Edge), (⟨y7.to, y7.out⟩ : Edge)] : List Edge), ([(⟨y18.to, y18.out⟩ : Edge), (⟨y24.to, y24.out⟩ : Edge)] : List Edge)] : List (List Edge)) := (sl_t h73 cap45)
  replace hd0 := bd_some hd0; obtain ⟨y75, c76, hd0⟩ := hd0
  refine wo_callP rfl en14 rfl (c_machines_Undefined (⟨_, ⟨_, _, rfl, rfl, ⟨_, _, rfl, rfl, (rep_one rfl (Sub.v (B := (tSl false (tSl false kEdge))) (sub_sl (sub_sl Sub.refl (fun _ => rfl)) (fun _ => rfl)) h74))⟩⟩, rfl⟩ : VRep (kMach false false) _ _ (⟨2, 2, ([([(⟨y1.to, y1.out⟩ : Edge), (⟨y7.to, y7.out⟩ : Edge)] : List Edge), ([(⟨y18.to, y18.out⟩ : Edge), (⟨y24.to, y24.out⟩ : Edge)] : List Edge)] : List (List Edge))⟩ : Mach)) c76) fun v77 R79 le80 h78 => ?_
  obtain ⟨v81, rfl, h82⟩ := h78
  refine wo_v rfl (val_move (v := (.tuple #[v81, (.int .i64 y75.2)])) rfl) ?_
  refine wo_v rfl (val_extract rfl rfl) ?_
  refine wo_v rfl (val_extract rfl rfl) ?_
  refine wo_v rfl (val_assign (v := v81) rfl) ?_
  refine wo_v rfl (val_assign (v := (.int .i64 y75.2)) rfl) ?_
  refine wo_nil ?_
  refine wg_seq ?_
  refine wg_seq ?_
  replace hd0 := bd_some hd0; obtain ⟨y83, c84, hd0⟩ := hd0
  have g85 := (gd_some hd0).1; replace hd0 := (gd_some hd0).2
  refine wg_guarded 42 [] [phX (.agg #[(.int .i64 2), (.int .i64 2), v43]), phX (.int .i64 y83), phX (.bool (decide (y83 ≠ 0))), phX (.bool (decide (y83 ≠ 0))), phG (true && ((decide (y83 ≠ 0)) == false)) (phX (.bool y53.1)), phX (.bool ((decide (y83 ≠ 0)) || y53.1)), phX (.bool ((decide (y83 ≠ 0)) || y53.1)), phG (true && (((decide (y83 ≠ 0)) || y53.1) == false)) (phX (.int .i64 y53.2)), phG (true && (((decide (y83 ≠ 0)) || y53.1) == false)) (phX (.bool (decide (y53.2 ≠ 0)))), phX (.bool (((decide (y83 ≠ 0)) || y53.1) || (decide (y53.2 ≠ 0)))), phX (.bool (((decide (y83 ≠ 0)) || y53.1) || (decide (y53.2 ≠ 0)))), phG (true && ((((decide (y83 ≠ 0)) || y53.1) || (decide (y53.2 ≠ 0))) == false)) (phX (.bool y60.1)), phG (true && ((((decide (y83 ≠ 0)) || y53.1) || (decide (y53.2 ≠ 0))) == false)) (phX (.bool (!y60.1))), phX (.bool ((((decide (y83 ≠ 0)) || y53.1) || (decide (y53.2 ≠ 0))) || (!y60.1))), phX (.bool ((((decide (y83 ≠ 0)) || y53.1) || (decide (y53.2 ≠ 0))) || (!y60.1))), phG (true && (((((decide (y83 ≠ 0)) || y53.1) || (decide (y53.2 ≠ 0))) || (!y60.1)) == false)) (phX (.int .i64 y60.2)), phG (true && (((((decide (y83 ≠ 0)) || y53.1) || (decide (y53.2 ≠ 0))) || (!y60.1)) == false)) (phX (.bool (decide (y60.2 ≠ 0)))), phX (.bool (((((decide (y83 ≠ 0)) || y53.1) || (decide (y53.2 ≠ 0))) || (!y60.1)) || (decide (y60.2 ≠ 0)))), phX (.bool (((((decide (y83 ≠ 0)) || y53.1) || (decide (y53.2 ≠ 0))) || (!y60.1)) || (decide (y60.2 ≠ 0)))), phG (true && ((((((decide (y83 ≠ 0)) || y53.1) || (decide (y53.2 ≠ 0))) || (!y60.1)) || (decide (y60.2 ≠ 0))) == false)) (phX (.int .i64 y67.1)), phG (true && ((((((decide (y83 ≠ 0)) || y53.1) || (decide (y53.2 ≠ 0))) || (!y60.1)) || (decide (y60.2 ≠ 0))) == false)) (phX (.bool (decide (y67.1 ≠ 3)))), phX (.bool ((((((decide (y83 ≠ 0)) || y53.1) || (decide (y53.2 ≠ 0))) || (!y60.1)) || (decide (y60.2 ≠ 0))) || (decide (y67.1 ≠ 3)))), phX (.bool ((((((decide (y83 ≠ 0)) || y53.1) || (decide (y53.2 ≠ 0))) || (!y60.1)) || (decide (y60.2 ≠ 0))) || (decide (y67.1 ≠ 3)))), phG (true && (((((((decide (y83 ≠ 0)) || y53.1) || (decide (y53.2 ≠ 0))) || (!y60.1)) || (decide (y60.2 ≠ 0))) || (decide (y67.1 ≠ 3))) == false)) (phX (.int .i64 y67.2)), phG (true && (((((((decide (y83 ≠ 0)) || y53.1) || (decide (y53.2 ≠ 0))) || (!y60.1)) || (decide (y60.2 ≠ 0))) || (decide (y67.1 ≠ 3))) == false)) (phX (.bool (decide (y67.2 ≠ 0)))), phX (.bool (((((((decide (y83 ≠ 0)) || y53.1) || (decide (y53.2 ≠ 0))) || (!y60.1)) || (decide (y60.2 ≠ 0))) || (decide (y67.1 ≠ 3))) || (decide (y67.2 ≠ 0)))), phX (.bool (((((((decide (y83 ≠ 0)) || y53.1) || (decide (y53.2 ≠ 0))) || (!y60.1)) || (decide (y60.2 ≠ 0))) || (decide (y67.1 ≠ 3))) || (decide (y67.2 ≠ 0)))), phG (true && ((((((((decide (y83 ≠ 0)) || y53.1) || (decide (y53.2 ≠ 0))) || (!y60.1)) || (decide (y60.2 ≠ 0))) || (decide (y67.1 ≠ 3))) || (decide (y67.2 ≠ 0))) == false)) (phX (.int .i64 y75.2)), phG (true && ((((((((decide (y83 ≠ 0)) || y53.1) || (decide (y53.2 ≠ 0))) || (!y60.1)) || (decide (y60.2 ≠ 0))) || (decide (y67.1 ≠ 3))) || (decide (y67.2 ≠ 0))) == false)) (phX (.bool (decide (y75.2 ≠ 0)))), phX (.bool ((((((((decide (y83 ≠ 0)) || y53.1) || (decide (y53.2 ≠ 0))) || (!y60.1)) || (decide (y60.2 ≠ 0))) || (decide (y67.1 ≠ 3))) || (decide (y67.2 ≠ 0))) || (decide (y75.2 ≠ 0)))), phX (.bool ((((((((decide (y83 ≠ 0)) || y53.1) || (decide (y53.2 ≠ 0))) || (!y60.1)) || (decide (y60.2 ≠ 0))) || (decide (y67.1 ≠ 3))) || (decide (y67.2 ≠ 0))) || (decide (y75.2 ≠ 0)))), phG (true && (((((((((decide (y83 ≠ 0)) || y53.1) || (decide (y53.2 ≠ 0))) || (!y60.1)) || (decide (y60.2 ≠ 0))) || (decide (y67.1 ≠ 3))) || (decide (y67.2 ≠ 0))) || (decide (y75.2 ≠ 0))) == false)) (phX v81), phG (true && (((((((((decide (y83 ≠ 0)) || y53.1) || (decide (y53.2 ≠ 0))) || (!y60.1)) || (decide (y60.2 ≠ 0))) || (decide (y67.1 ≠ 3))) || (decide (y67.2 ≠ 0))) || (decide (y75.2 ≠ 0))) == false)) (phX (.int .i64 (↑y75.1.length : Int))), phG (true && (((((((((decide (y83 ≠ 0)) || y53.1) || (decide (y53.2 ≠ 0))) || (!y60.1)) || (decide (y60.2 ≠ 0))) || (decide (y67.1 ≠ 3))) || (decide (y67.2 ≠ 0))) || (decide (y75.2 ≠ 0))) == false)) (phX (.bool (decide ((↑y75.1.length : Int) ≠ 1)))), phX (.bool (((((((((decide (y83 ≠ 0)) || y53.1) || (decide (y53.2 ≠ 0))) || (!y60.1)) || (decide (y60.2 ≠ 0))) || (decide (y67.1 ≠ 3))) || (decide (y67.2 ≠ 0))) || (decide (y75.2 ≠ 0))) || (decide ((↑y75.1.length : Int) ≠ 1)))), phX (.bool (((((((((decide (y83 ≠ 0)) || y53.1) || (decide (y53.2 ≠ 0))) || (!y60.1)) || (decide (y60.2 ≠ 0))) || (decide (y67.1 ≠ 3))) || (decide (y67.2 ≠ 0))) || (decide (y75.2 ≠ 0))) || (decide ((↑y75.1.length : Int) ≠ 1)))), phG (true && ((((((((((decide (y83 ≠ 0)) || y53.1) || (decide (y53.2 ≠ 0))) || (!y60.1)) || (decide (y60.2 ≠ 0))) || (decide (y67.1 ≠ 3))) || (decide (y67.2 ≠ 0))) || (decide (y75.2 ≠ 0))) || (decide ((↑y75.1.length : Int) ≠ 1))) == false)) (phX v81), phG (true && ((((((((((decide (y83 ≠ 0)) || y53.1) || (decide (y53.2 ≠ 0))) || (!y60.1)) || (decide (y60.2 ≠ 0))) || (decide (y67.1 ≠ 3))) || (decide (y67.2 ≠ 0))) || (decide (y75.2 ≠ 0))) || (decide ((↑y75.1.length : Int) ≠ 1))) == false)) (phP kA2tInti64 (ix y75.1 0)), phG (true && ((((((((((decide (y83 ≠ 0)) || y53.1) || (decide (y53.2 ≠ 0))) || (!y60.1)) || (decide (y60.2 ≠ 0))) || (decide (y67.1 ≠ 3))) || (decide (y67.2 ≠ 0))) || (decide (y75.2 ≠ 0))) || (decide ((↑y75.1.length : Int) ≠ 1))) == false)) (phX (enc_A2tInti64 (ix y75.1 0))), phG (true && ((((((((((decide (y83 ≠ 0)) || y53.1) || (decide (y53.2 ≠ 0))) || (!y60.1)) || (decide (y60.2 ≠ 0))) || (decide (y67.1 ≠ 3))) || (decide (y67.2 ≠ 0))) || (decide (y75.2 ≠ 0))) || (decide ((↑y75.1.length : Int) ≠ 1))) == false)) (phX (.agg #[(.int .i64 1), (.int .i64 0)])), phG (true && ((((((((((decide (y83 ≠ 0)) || y53.1) || (decide (y53.2 ≠ 0))) || (!y60.1)) || (decide (y60.2 ≠ 0))) || (decide (y67.1 ≠ 3))) || (decide (y67.2 ≠ 0))) || (decide (y75.2 ≠ 0))) || (decide ((↑y75.1.length : Int) ≠ 1))) == false)) (phX (.bool (decide (¬ (((ix y75.1 0).1) = (1 : Int) ∧ ((ix y75.1 0).2) = (0 : Int)))))), phX (.bool ((((((((((decide (y83 ≠ 0)) || y53.1) || (decide (y53.2 ≠ 0))) || (!y60.1)) || (decide (y60.2 ≠ 0))) || (decide (y67.1 ≠ 3))) || (decide (y67.2 ≠ 0))) || (decide (y75.2 ≠ 0))) || (decide ((↑y75.1.length : Int) ≠ 1))) || (decide (¬ (((ix y75.1 0).1) = (1 : Int) ∧ ((ix y75.1 0).2) = (0 : Int))))))] (by kernel_rfl) (by kernel_rfl) (monoOk_of ⟨mono_x, mono_x, mono_x, mono_x, (mono_g mono_x), mono_x, mono_x, (mono_g mono_x), (mono_g mono_x), mono_x, mono_x, (mono_g mono_x), (mono_g mono_x), mono_x, mono_x, (mono_g mono_x), (mono_g mono_x), mono_x, mono_x, (mono_g mono_x), (mono_g mono_x), mono_x, mono_x, (mono_g mono_x), (mono_g mono_x), mono_x, mono_x, (mono_g mono_x), (mono_g mono_x), mono_x, mono_x, (mono_g mono_x), (mono_g mono_x), (mono_g mono_x), mono_x, mono_x, (mono_g mono_x), (mono_g mono_p), (mono_g mono_x), (mono_g mono_x), (mono_g mono_x), mono_x, trivial⟩) ⟨?_, ?_, ?_, ?_, ?_, ?_, ?_, ?_, ?_, ?_, ?_, ?_, ?_, ?_, ?_, ?_, ?_, ?_, ?_, ?_, ?_, ?_, ?_, ?_, ?_, ?_, ?_, ?_, ?_, ?_, ?_, ?_, ?_, ?_, ?_, ?_, ?_, ?_, ?_, ?_, ?_, ?_, trivial⟩ fun R86 le87 => ?_
  · intro l R0q hle ha hd
    have a1 : l 1 = (.pointer (some ⟨b48, 0, none⟩)) := ha 1 rfl
    exact gstep_plain rfl rfl rfl (ph_val (val_loadBA (i := 0) ag27 sz27 a1 rfl rfl rfl))
  · intro l R1q hle ha hd
    obtain ⟨d0, _⟩ := hd
    have f60 : l 60 = (.agg #[(.int .i64 2), (.int .i64 2), v43]) := d0 rfl
    exact gstep_plain rfl rfl rfl (ph_callP en31 (by simp only [List.map, ev, f60] <;> rfl) (c_machines_Check (⟨_, ⟨_, _, rfl, rfl, ⟨_, _, rfl, rfl, (rep_one rfl (Sub.v (B := (tSl false (tSl false kEdge))) (sub_sl (sub_sl Sub.refl (fun _ => rfl)) (fun _ => rfl)) ((h74.mono le80).mono hle)))⟩⟩, rfl⟩ : VRep (kMach false false) _ _ (⟨2, 2, ([([(⟨y1.to, y1.out⟩ : Edge), (⟨y7.to, y7.out⟩ : Edge)] : List Edge), ([(⟨y18.to, y18.out⟩ : Edge), (⟨y24.to, y24.out⟩ : Edge)] : List Edge)] : List (List Edge))⟩ : Mach)) c84) (fun _ _ h => h))
  · intro l R2q hle ha hd
    obtain ⟨d0, _⟩ := hd
    have f61 : l 61 = (.int .i64 y83) := d0 rfl
    exact gstep_plain rfl rfl rfl (ph_val (val_neq f61 rfl))
  · intro l R3q hle ha hd
    obtain ⟨d0, d1, _⟩ := hd
    have f62 : l 62 = (.bool (decide (y83 ≠ 0))) := d0 rfl
    exact gstep_plain rfl rfl rfl (ph_val (val_move f62))
  · intro l R4q hle ha hd
    obtain ⟨d0, _⟩ := hd
    have a2 : l 2 = (.bool y53.1) := ha 2 rfl
    exact gstep_guard (Gj := true) (Bj := decide (y83 ≠ 0)) rfl rfl rfl (gtrue (d0 rfl)) rfl (fun hG hB => ph_val (val_move a2))
  · intro l R5q hle ha hd
    obtain ⟨d0, d1, _⟩ := hd
    have f63 : l 63 = (.bool (decide (y83 ≠ 0))) := d0 rfl
    have f64g : phG (true && ((decide (y83 ≠ 0)) == false)) (phX (.bool y53.1)) (l 64) R5q := d1 rfl
    exact gstep_plain rfl rfl rfl (ph_val (val_or f63 rfl (fun hb => (show l 64 = (.bool y53.1) from f64g.1 (gandT rfl hb)))))
  · intro l R6q hle ha hd
    obtain ⟨d0, d1, _⟩ := hd
    have f65 : l 65 = (.bool ((decide (y83 ≠ 0)) || y53.1)) := d0 rfl
    exact gstep_plain rfl rfl rfl (ph_val (val_move f65))
  · intro l R7q hle ha hd
    obtain ⟨d0, _⟩ := hd
    have a3 : l 3 = (.int .i64 y53.2) := ha 3 rfl
    exact gstep_guard (Gj := true) (Bj := (decide (y83 ≠ 0)) || y53.1) rfl rfl rfl (gtrue (d0 rfl)) rfl (fun hG hB => ph_val (val_move a3))
  · intro l R8q hle ha hd
    obtain ⟨d0, d1, _⟩ := hd
    have f67g : phG (true && (((decide (y83 ≠ 0)) || y53.1) == false)) (phX (.int .i64 y53.2)) (l 67) R8q := d0 rfl
    exact gstep_guard (Gj := true) (Bj := (decide (y83 ≠ 0)) || y53.1) rfl rfl rfl (gtrue (d1 rfl)) rfl (fun hG hB => ph_val (val_neq (show l 67 = (.int .i64 y53.2) from f67g.1 (gandT rfl hB)) rfl))
  · intro l R9q hle ha hd
    obtain ⟨d0, d1, _⟩ := hd
    have f66 : l 66 = (.bool ((decide (y83 ≠ 0)) || y53.1)) := d0 rfl
    have f68g : phG (true && (((decide (y83 ≠ 0)) || y53.1) == false)) (phX (.bool (decide (y53.2 ≠ 0)))) (l 68) R9q := d1 rfl
    exact gstep_plain rfl rfl rfl (ph_val (val_or f66 rfl (fun hb => (show l 68 = (.bool (decide (y53.2 ≠ 0))) from f68g.1 (gandT rfl hb)))))
  · intro l R10q hle ha hd
    obtain ⟨d0, d1, _⟩ := hd
    have f69 : l 69 = (.bool (((decide (y83 ≠ 0)) || y53.1) || (decide (y53.2 ≠ 0)))) := d0 rfl
    exact gstep_plain rfl rfl rfl (ph_val (val_move f69))
  · intro l R11q hle ha hd
    obtain ⟨d0, _⟩ := hd
    have a4 : l 4 = (.bool y60.1) := ha 4 rfl
    exact gstep_guard (Gj := true) (Bj := ((decide (y83 ≠ 0)) || y53.1) || (decide (y53.2 ≠ 0))) rfl rfl rfl (gtrue (d0 rfl)) rfl (fun hG hB => ph_val (val_move a4))
  · intro l R12q hle ha hd
    obtain ⟨d0, d1, _⟩ := hd
    have f71g : phG (true && ((((decide (y83 ≠ 0)) || y53.1) || (decide (y53.2 ≠ 0))) == false)) (phX (.bool y60.1)) (l 71) R12q := d0 rfl
    exact gstep_guard (Gj := true) (Bj := ((decide (y83 ≠ 0)) || y53.1) || (decide (y53.2 ≠ 0))) rfl rfl rfl (gtrue (d1 rfl)) rfl (fun hG hB => ph_val (val_not (show l 71 = (.bool y60.1) from f71g.1 (gandT rfl hB))))
  · intro l R13q hle ha hd
    obtain ⟨d0, d1, _⟩ := hd
    have f70 : l 70 = (.bool (((decide (y83 ≠ 0)) || y53.1) || (decide (y53.2 ≠ 0)))) := d0 rfl
    have f72g : phG (true && ((((decide (y83 ≠ 0)) || y53.1) || (decide (y53.2 ≠ 0))) == false)) (phX (.bool (!y60.1))) (l 72) R13q := d1 rfl
    exact gstep_plain rfl rfl rfl (ph_val (val_or f70 rfl (fun hb => (show l 72 = (.bool (!y60.1)) from f72g.1 (gandT rfl hb)))))
  · intro l R14q hle ha hd
    obtain ⟨d0, d1, _⟩ := hd
    have f73 : l 73 = (.bool ((((decide (y83 ≠ 0)) || y53.1) || (decide (y53.2 ≠ 0))) || (!y60.1))) := d0 rfl
    exact gstep_plain rfl rfl rfl (ph_val (val_move f73))
  · intro l R15q hle ha hd
    obtain ⟨d0, _⟩ := hd
    have a5 : l 5 = (.int .i64 y60.2) := ha 5 rfl
    exact gstep_guard (Gj := true) (Bj := (((decide (y83 ≠ 0)) || y53.1) || (decide (y53.2 ≠ 0))) || (!y60.1)) rfl rfl rfl (gtrue (d0 rfl)) rfl (fun hG hB => ph_val (val_move a5))
  · intro l R16q hle ha hd
    obtain ⟨d0, d1, _⟩ := hd
    have f75g : phG (true && (((((decide (y83 ≠ 0)) || y53.1) || (decide (y53.2 ≠ 0))) || (!y60.1)) == false)) (phX (.int .i64 y60.2)) (l 75) R16q := d0 rfl
    exact gstep_guard (Gj := true) (Bj := (((decide (y83 ≠ 0)) || y53.1) || (decide (y53.2 ≠ 0))) || (!y60.1)) rfl rfl rfl (gtrue (d1 rfl)) rfl (fun hG hB => ph_val (val_neq (show l 75 = (.int .i64 y60.2) from f75g.1 (gandT rfl hB)) rfl))
  · intro l R17q hle ha hd
    obtain ⟨d0, d1, _⟩ := hd
    have f74 : l 74 = (.bool ((((decide (y83 ≠ 0)) || y53.1) || (decide (y53.2 ≠ 0))) || (!y60.1))) := d0 rfl
    have f76g : phG (true && (((((decide (y83 ≠ 0)) || y53.1) || (decide (y53.2 ≠ 0))) || (!y60.1)) == false)) (phX (.bool (decide (y60.2 ≠ 0)))) (l 76) R17q := d1 rfl
    exact gstep_plain rfl rfl rfl (ph_val (val_or f74 rfl (fun hb => (show l 76 = (.bool (decide (y60.2 ≠ 0))) from f76g.1 (gandT rfl hb)))))
  · intro l R18q hle ha hd
    obtain ⟨d0, d1, _⟩ := hd
    have f77 : l 77 = (.bool (((((decide (y83 ≠ 0)) || y53.1) || (decide (y53.2 ≠ 0))) || (!y60.1)) || (decide (y60.2 ≠ 0)))) := d0 rfl
    exact gstep_plain rfl rfl rfl (ph_val (val_move f77))
  · intro l R19q hle ha hd
    obtain ⟨d0, _⟩ := hd
    have a6 : l 6 = (.int .i64 y67.1) := ha 6 rfl
    exact gstep_guard (Gj := true) (Bj := ((((decide (y83 ≠ 0)) || y53.1) || (decide (y53.2 ≠ 0))) || (!y60.1)) || (decide (y60.2 ≠ 0))) rfl rfl rfl (gtrue (d0 rfl)) rfl (fun hG hB => ph_val (val_move a6))
  · intro l R20q hle ha hd
    obtain ⟨d0, d1, _⟩ := hd
    have f79g : phG (true && ((((((decide (y83 ≠ 0)) || y53.1) || (decide (y53.2 ≠ 0))) || (!y60.1)) || (decide (y60.2 ≠ 0))) == false)) (phX (.int .i64 y67.1)) (l 79) R20q := d0 rfl
    exact gstep_guard (Gj := true) (Bj := ((((decide (y83 ≠ 0)) || y53.1) || (decide (y53.2 ≠ 0))) || (!y60.1)) || (decide (y60.2 ≠ 0))) rfl rfl rfl (gtrue (d1 rfl)) rfl (fun hG hB => ph_val (val_neq (show l 79 = (.int .i64 y67.1) from f79g.1 (gandT rfl hB)) rfl))
  · intro l R21q hle ha hd
    obtain ⟨d0, d1, _⟩ := hd
    have f78 : l 78 = (.bool (((((decide (y83 ≠ 0)) || y53.1) || (decide (y53.2 ≠ 0))) || (!y60.1)) || (decide (y60.2 ≠ 0)))) := d0 rfl
    have f80g : phG (true && ((((((decide (y83 ≠ 0)) || y53.1) || (decide (y53.2 ≠ 0))) || (!y60.1)) || (decide (y60.2 ≠ 0))) == false)) (phX (.bool (decide (y67.1 ≠ 3)))) (l 80) R21q := d1 rfl
    exact gstep_plain rfl rfl rfl (ph_val (val_or f78 rfl (fun hb => (show l 80 = (.bool (decide (y67.1 ≠ 3))) from f80g.1 (gandT rfl hb)))))
  · intro l R22q hle ha hd
    obtain ⟨d0, d1, _⟩ := hd
    have f81 : l 81 = (.bool ((((((decide (y83 ≠ 0)) || y53.1) || (decide (y53.2 ≠ 0))) || (!y60.1)) || (decide (y60.2 ≠ 0))) || (decide (y67.1 ≠ 3)))) := d0 rfl
    exact gstep_plain rfl rfl rfl (ph_val (val_move f81))
  · intro l R23q hle ha hd
    obtain ⟨d0, _⟩ := hd
    have a7 : l 7 = (.int .i64 y67.2) := ha 7 rfl
    exact gstep_guard (Gj := true) (Bj := (((((decide (y83 ≠ 0)) || y53.1) || (decide (y53.2 ≠ 0))) || (!y60.1)) || (decide (y60.2 ≠ 0))) || (decide (y67.1 ≠ 3))) rfl rfl rfl (gtrue (d0 rfl)) rfl (fun hG hB => ph_val (val_move a7))
  · intro l R24q hle ha hd
    obtain ⟨d0, d1, _⟩ := hd
    have f83g : phG (true && (((((((decide (y83 ≠ 0)) || y53.1) || (decide (y53.2 ≠ 0))) || (!y60.1)) || (decide (y60.2 ≠ 0))) || (decide (y67.1 ≠ 3))) == false)) (phX (.int .i64 y67.2)) (l 83) R24q := d0 rfl
    exact gstep_guard (Gj := true) (Bj := (((((decide (y83 ≠ 0)) || y53.1) || (decide (y53.2 ≠ 0))) || (!y60.1)) || (decide (y60.2 ≠ 0))) || (decide (y67.1 ≠ 3))) rfl rfl rfl (gtrue (d1 rfl)) rfl (fun hG hB => ph_val (val_neq (show l 83 = (.int .i64 y67.2) from f83g.1 (gandT rfl hB)) rfl))
  · intro l R25q hle ha hd
    obtain ⟨d0, d1, _⟩ := hd
    have f82 : l 82 = (.bool ((((((decide (y83 ≠ 0)) || y53.1) || (decide (y53.2 ≠ 0))) || (!y60.1)) || (decide (y60.2 ≠ 0))) || (decide (y67.1 ≠ 3)))) := d0 rfl
    have f84g : phG (true && (((((((decide (y83 ≠ 0)) || y53.1) || (decide (y53.2 ≠ 0))) || (!y60.1)) || (decide (y60.2 ≠ 0))) || (decide (y67.1 ≠ 3))) == false)) (phX (.bool (decide (y67.2 ≠ 0)))) (l 84) R25q := d1 rfl
    exact gstep_plain rfl rfl rfl (ph_val (val_or f82 rfl (fun hb => (show l 84 = (.bool (decide (y67.2 ≠ 0))) from f84g.1 (gandT rfl hb)))))
  · intro l R26q hle ha hd
    obtain ⟨d0, d1, _⟩ := hd
    have f85 : l 85 = (.bool (((((((decide (y83 ≠ 0)) || y53.1) || (decide (y53.2 ≠ 0))) || (!y60.1)) || (decide (y60.2 ≠ 0))) || (decide (y67.1 ≠ 3))) || (decide (y67.2 ≠ 0)))) := d0 rfl
    exact gstep_plain rfl rfl rfl (ph_val (val_move f85))
  · intro l R27q hle ha hd
    obtain ⟨d0, _⟩ := hd
    have a9 : l 9 = (.int .i64 y75.2) := ha 9 rfl
    exact gstep_guard (Gj := true) (Bj := ((((((decide (y83 ≠ 0)) || y53.1) || (decide (y53.2 ≠ 0))) || (!y60.1)) || (decide (y60.2 ≠ 0))) || (decide (y67.1 ≠ 3))) || (decide (y67.2 ≠ 0))) rfl rfl rfl (gtrue (d0 rfl)) rfl (fun hG hB => ph_val (val_move a9))
  · intro l R28q hle ha hd
    obtain ⟨d0, d1, _⟩ := hd
    have f87g : phG (true && ((((((((decide (y83 ≠ 0)) || y53.1) || (decide (y53.2 ≠ 0))) || (!y60.1)) || (decide (y60.2 ≠ 0))) || (decide (y67.1 ≠ 3))) || (decide (y67.2 ≠ 0))) == false)) (phX (.int .i64 y75.2)) (l 87) R28q := d0 rfl
    exact gstep_guard (Gj := true) (Bj := ((((((decide (y83 ≠ 0)) || y53.1) || (decide (y53.2 ≠ 0))) || (!y60.1)) || (decide (y60.2 ≠ 0))) || (decide (y67.1 ≠ 3))) || (decide (y67.2 ≠ 0))) rfl rfl rfl (gtrue (d1 rfl)) rfl (fun hG hB => ph_val (val_neq (show l 87 = (.int .i64 y75.2) from f87g.1 (gandT rfl hB)) rfl))
  · intro l R29q hle ha hd
    obtain ⟨d0, d1, _⟩ := hd
    have f86 : l 86 = (.bool (((((((decide (y83 ≠ 0)) || y53.1) || (decide (y53.2 ≠ 0))) || (!y60.1)) || (decide (y60.2 ≠ 0))) || (decide (y67.1 ≠ 3))) || (decide (y67.2 ≠ 0)))) := d0 rfl
    have f88g : phG (true && ((((((((decide (y83 ≠ 0)) || y53.1) || (decide (y53.2 ≠ 0))) || (!y60.1)) || (decide (y60.2 ≠ 0))) || (decide (y67.1 ≠ 3))) || (decide (y67.2 ≠ 0))) == false)) (phX (.bool (decide (y75.2 ≠ 0)))) (l 88) R29q := d1 rfl
    exact gstep_plain rfl rfl rfl (ph_val (val_or f86 rfl (fun hb => (show l 88 = (.bool (decide (y75.2 ≠ 0))) from f88g.1 (gandT rfl hb)))))
  · intro l R30q hle ha hd
    obtain ⟨d0, d1, _⟩ := hd
    have f89 : l 89 = (.bool ((((((((decide (y83 ≠ 0)) || y53.1) || (decide (y53.2 ≠ 0))) || (!y60.1)) || (decide (y60.2 ≠ 0))) || (decide (y67.1 ≠ 3))) || (decide (y67.2 ≠ 0))) || (decide (y75.2 ≠ 0)))) := d0 rfl
    exact gstep_plain rfl rfl rfl (ph_val (val_move f89))
  · intro l R31q hle ha hd
    obtain ⟨d0, _⟩ := hd
    have a8 : l 8 = v81 := ha 8 rfl
    exact gstep_guard (Gj := true) (Bj := (((((((decide (y83 ≠ 0)) || y53.1) || (decide (y53.2 ≠ 0))) || (!y60.1)) || (decide (y60.2 ≠ 0))) || (decide (y67.1 ≠ 3))) || (decide (y67.2 ≠ 0))) || (decide (y75.2 ≠ 0))) rfl rfl rfl (gtrue (d0 rfl)) rfl (fun hG hB => ph_val (val_move a8))
  · intro l R32q hle ha hd
    obtain ⟨d0, d1, _⟩ := hd
    have f91g : phG (true && (((((((((decide (y83 ≠ 0)) || y53.1) || (decide (y53.2 ≠ 0))) || (!y60.1)) || (decide (y60.2 ≠ 0))) || (decide (y67.1 ≠ 3))) || (decide (y67.2 ≠ 0))) || (decide (y75.2 ≠ 0))) == false)) (phX v81) (l 91) R32q := d0 rfl
    exact gstep_guard (Gj := true) (Bj := (((((((decide (y83 ≠ 0)) || y53.1) || (decide (y53.2 ≠ 0))) || (!y60.1)) || (decide (y60.2 ≠ 0))) || (decide (y67.1 ≠ 3))) || (decide (y67.2 ≠ 0))) || (decide (y75.2 ≠ 0))) rfl rfl rfl (gtrue (d1 rfl)) rfl (fun hG hB => ph_val (val_lenR rfl Try.underlying34 (show l 91 = v81 from f91g.1 (gandT rfl hB)) (sl_s (h82.mono hle))))
  · intro l R33q hle ha hd
    obtain ⟨d0, d1, _⟩ := hd
    have f92g : phG (true && (((((((((decide (y83 ≠ 0)) || y53.1) || (decide (y53.2 ≠ 0))) || (!y60.1)) || (decide (y60.2 ≠ 0))) || (decide (y67.1 ≠ 3))) || (decide (y67.2 ≠ 0))) || (decide (y75.2 ≠ 0))) == false)) (phX (.int .i64 (↑y75.1.length : Int))) (l 92) R33q := d0 rfl
    exact gstep_guard (Gj := true) (Bj := (((((((decide (y83 ≠ 0)) || y53.1) || (decide (y53.2 ≠ 0))) || (!y60.1)) || (decide (y60.2 ≠ 0))) || (decide (y67.1 ≠ 3))) || (decide (y67.2 ≠ 0))) || (decide (y75.2 ≠ 0))) rfl rfl rfl (gtrue (d1 rfl)) rfl (fun hG hB => ph_val (val_neq (show l 92 = (.int .i64 (↑y75.1.length : Int)) from f92g.1 (gandT rfl hB)) rfl))
  · intro l R34q hle ha hd
    obtain ⟨d0, d1, _⟩ := hd
    have f90 : l 90 = (.bool ((((((((decide (y83 ≠ 0)) || y53.1) || (decide (y53.2 ≠ 0))) || (!y60.1)) || (decide (y60.2 ≠ 0))) || (decide (y67.1 ≠ 3))) || (decide (y67.2 ≠ 0))) || (decide (y75.2 ≠ 0)))) := d0 rfl
    have f93g : phG (true && (((((((((decide (y83 ≠ 0)) || y53.1) || (decide (y53.2 ≠ 0))) || (!y60.1)) || (decide (y60.2 ≠ 0))) || (decide (y67.1 ≠ 3))) || (decide (y67.2 ≠ 0))) || (decide (y75.2 ≠ 0))) == false)) (phX (.bool (decide ((↑y75.1.length : Int) ≠ 1)))) (l 93) R34q := d1 rfl
    exact gstep_plain rfl rfl rfl (ph_val (val_or f90 rfl (fun hb => (show l 93 = (.bool (decide ((↑y75.1.length : Int) ≠ 1))) from f93g.1 (gandT rfl hb)))))
  · intro l R35q hle ha hd
    obtain ⟨d0, d1, _⟩ := hd
    have f94 : l 94 = (.bool (((((((((decide (y83 ≠ 0)) || y53.1) || (decide (y53.2 ≠ 0))) || (!y60.1)) || (decide (y60.2 ≠ 0))) || (decide (y67.1 ≠ 3))) || (decide (y67.2 ≠ 0))) || (decide (y75.2 ≠ 0))) || (decide ((↑y75.1.length : Int) ≠ 1)))) := d0 rfl
    exact gstep_plain rfl rfl rfl (ph_val (val_move f94))
  · intro l R36q hle ha hd
    obtain ⟨d0, _⟩ := hd
    have a8 : l 8 = v81 := ha 8 rfl
    exact gstep_guard (Gj := true) (Bj := ((((((((decide (y83 ≠ 0)) || y53.1) || (decide (y53.2 ≠ 0))) || (!y60.1)) || (decide (y60.2 ≠ 0))) || (decide (y67.1 ≠ 3))) || (decide (y67.2 ≠ 0))) || (decide (y75.2 ≠ 0))) || (decide ((↑y75.1.length : Int) ≠ 1))) rfl rfl rfl (gtrue (d0 rfl)) rfl (fun hG hB => ph_val (val_move a8))
  · intro l R37q hle ha hd
    obtain ⟨d0, d1, _⟩ := hd
    have f96g : phG (true && ((((((((((decide (y83 ≠ 0)) || y53.1) || (decide (y53.2 ≠ 0))) || (!y60.1)) || (decide (y60.2 ≠ 0))) || (decide (y67.1 ≠ 3))) || (decide (y67.2 ≠ 0))) || (decide (y75.2 ≠ 0))) || (decide ((↑y75.1.length : Int) ≠ 1))) == false)) (phX v81) (l 96) R37q := d0 rfl
    exact gstep_guard (Gj := true) (Bj := ((((((((decide (y83 ≠ 0)) || y53.1) || (decide (y53.2 ≠ 0))) || (!y60.1)) || (decide (y60.2 ≠ 0))) || (decide (y67.1 ≠ 3))) || (decide (y67.2 ≠ 0))) || (decide (y75.2 ≠ 0))) || (decide ((↑y75.1.length : Int) ≠ 1))) rfl rfl rfl (gtrue (d1 rfl)) rfl (fun hG hB => ph_indexR (i := (0 : Int).toNat) sl34 (show l 96 = v81 from f96g.1 (gandT rfl hB)) (sl_s (h82.mono hle)) (idx_nonneg rfl (g85 (gandT hG hB)).1) (okI_lt (g85 (gandT hG hB))))
  · intro l R38q hle ha hd
    obtain ⟨d0, d1, _⟩ := hd
    have f97g : phG (true && ((((((((((decide (y83 ≠ 0)) || y53.1) || (decide (y53.2 ≠ 0))) || (!y60.1)) || (decide (y60.2 ≠ 0))) || (decide (y67.1 ≠ 3))) || (decide (y67.2 ≠ 0))) || (decide (y75.2 ≠ 0))) || (decide ((↑y75.1.length : Int) ≠ 1))) == false)) (phP kA2tInti64 (ix y75.1 0)) (l 97) R38q := d0 rfl
    exact gstep_guard (Gj := true) (Bj := ((((((((decide (y83 ≠ 0)) || y53.1) || (decide (y53.2 ≠ 0))) || (!y60.1)) || (decide (y60.2 ≠ 0))) || (decide (y67.1 ≠ 3))) || (decide (y67.2 ≠ 0))) || (decide (y75.2 ≠ 0))) || (decide ((↑y75.1.length : Int) ≠ 1))) rfl rfl rfl (gtrue (d1 rfl)) rfl (fun hG hB => ph_exact (ph_loadR ty42 rfl (f97g.1 (gandT rfl hB))) (fun _ _ h => vrep_A2tInti64.1 h))
  · intro l R39q hle ha hd
    obtain ⟨d0, _⟩ := hd
    exact gstep_guard (Gj := true) (Bj := ((((((((decide (y83 ≠ 0)) || y53.1) || (decide (y53.2 ≠ 0))) || (!y60.1)) || (decide (y60.2 ≠ 0))) || (decide (y67.1 ≠ 3))) || (decide (y67.2 ≠ 0))) || (decide (y75.2 ≠ 0))) || (decide ((↑y75.1.length : Int) ≠ 1))) rfl rfl rfl (gtrue (d0 rfl)) rfl (fun hG hB => ph_val (val_buildL (ps := [(0, (.int .i64 1)), (1, (.int .i64 0))]) (v := (.agg #[(.int .i64 1), (.int .i64 0)])) rfl (fun w => by kernel_rfl)))
  · intro l R40q hle ha hd
    obtain ⟨d0, d1, d2, _⟩ := hd
    have f98g : phG (true && ((((((((((decide (y83 ≠ 0)) || y53.1) || (decide (y53.2 ≠ 0))) || (!y60.1)) || (decide (y60.2 ≠ 0))) || (decide (y67.1 ≠ 3))) || (decide (y67.2 ≠ 0))) || (decide (y75.2 ≠ 0))) || (decide ((↑y75.1.length : Int) ≠ 1))) == false)) (phX (enc_A2tInti64 (ix y75.1 0))) (l 98) R40q := d0 rfl
    have f99g : phG (true && ((((((((((decide (y83 ≠ 0)) || y53.1) || (decide (y53.2 ≠ 0))) || (!y60.1)) || (decide (y60.2 ≠ 0))) || (decide (y67.1 ≠ 3))) || (decide (y67.2 ≠ 0))) || (decide (y75.2 ≠ 0))) || (decide ((↑y75.1.length : Int) ≠ 1))) == false)) (phX (.agg #[(.int .i64 1), (.int .i64 0)])) (l 99) R40q := d1 rfl
    exact gstep_guard (Gj := true) (Bj := ((((((((decide (y83 ≠ 0)) || y53.1) || (decide (y53.2 ≠ 0))) || (!y60.1)) || (decide (y60.2 ≠ 0))) || (decide (y67.1 ≠ 3))) || (decide (y67.2 ≠ 0))) || (decide (y75.2 ≠ 0))) || (decide ((↑y75.1.length : Int) ≠ 1))) rfl rfl rfl (gtrue (d2 rfl)) rfl (fun hG hB => ph_val (val_neq2 eq42 (show l 98 = (enc_A2tInti64 (ix y75.1 0)) from f98g.1 (gandT rfl hB)) (show l 99 = (.agg #[(.int .i64 1), (.int .i64 0)]) from f99g.1 (gandT rfl hB))))
  · intro l R41q hle ha hd
    obtain ⟨d0, d1, _⟩ := hd
    have f95 : l 95 = (.bool (((((((((decide (y83 ≠ 0)) || y53.1) || (decide (y53.2 ≠ 0))) || (!y60.1)) || (decide (y60.2 ≠ 0))) || (decide (y67.1 ≠ 3))) || (decide (y67.2 ≠ 0))) || (decide (y75.2 ≠ 0))) || (decide ((↑y75.1.length : Int) ≠ 1)))) := d0 rfl
    have f100g : phG (true && ((((((((((decide (y83 ≠ 0)) || y53.1) || (decide (y53.2 ≠ 0))) || (!y60.1)) || (decide (y60.2 ≠ 0))) || (decide (y67.1 ≠ 3))) || (decide (y67.2 ≠ 0))) || (decide (y75.2 ≠ 0))) || (decide ((↑y75.1.length : Int) ≠ 1))) == false)) (phX (.bool (decide (¬ (((ix y75.1 0).1) = (1 : Int) ∧ ((ix y75.1 0).2) = (0 : Int)))))) (l 100) R41q := d1 rfl
    exact gstep_plain rfl rfl rfl (ph_val (val_or f95 rfl (fun hb => (show l 100 = (.bool (decide (¬ (((ix y75.1 0).1) = (1 : Int) ∧ ((ix y75.1 0).2) = (0 : Int))))) from f100g.1 (gandT rfl hb)))))
  intro v88 h89
  intro v90 h91
  intro v92 h93
  intro v94 h95
  intro v96 h97
  intro v98 h99
  intro v100 h101
  intro v102 h103
  intro v104 h105
  intro v106 h107
  intro v108 h109
  intro v110 h111
  intro v112 h113
  intro v114 h115
  intro v116 h117
  intro v118 h119
  intro v120 h121
  intro v122 h123
  intro v124 h125
  intro v126 h127
  intro v128 h129
  intro v130 h131
  intro v132 h133
  intro v134 h135
  intro v136 h137
  intro v138 h139
  intro v140 h141
  intro v142 h143
  intro v144 h145
  intro v146 h147
  intro v148 h149
  intro v150 h151
  intro v152 h153
  intro v154 h155
  intro v156 h157
  intro v158 h159
  intro v160 h161
  intro v162 h163
  intro v164 h165
  intro v166 h167
  intro v168 h169
  intro v170 h171
  obtain rfl := Eq.symm h89
  obtain rfl := Eq.symm h91
  obtain rfl := Eq.symm h93
  obtain rfl := Eq.symm h95
  obtain rfl := Eq.symm h99
  obtain rfl := Eq.symm h101
  obtain rfl := Eq.symm h107
  obtain rfl := Eq.symm h109
  obtain rfl := Eq.symm h115
  obtain rfl := Eq.symm h117
  obtain rfl := Eq.symm h123
  obtain rfl := Eq.symm h125
  obtain rfl := Eq.symm h131
  obtain rfl := Eq.symm h133
  obtain rfl := Eq.symm h139
  obtain rfl := Eq.symm h141
  obtain rfl := Eq.symm h147
  obtain rfl := Eq.symm h149
  obtain rfl := Eq.symm h157
  obtain rfl := Eq.symm h159
  obtain rfl := Eq.symm h171
  refine wo_nil ?_
  refine wg_cond rfl (fun e172 => ?_) (fun e172 => ?_)
  · replace hd0 := sel_t e172 hd0; clear e172
    refine wg_seq ?_
    refine wg_region ?_
    refine wo_v rfl (val_assign (v := (.bool false)) rfl) ?_
    refine wo_nil ?_
    refine wg_ret ?_
    obtain rfl := Option.some.inj hd0
    refine body_end (D := []) (J := [box b48 [(.int .i64 2), (.int .i64 2), v43] 27]) (rs := [.tmp 0]) (vs := [(.bool false)]) ((((((((le6.trans le12).trans le23).trans le29).trans le36).trans le40).trans le72).trans le80).trans le87) rfl rfl ⟨rfl, trivial⟩ ?_
    exact ⟨rfl, rfl⟩
  · replace hd0 := sel_f e172 hd0; clear e172
    refine wg_skip ?_
    refine wg_seq ?_
    refine wg_region ?_
    refine wo_v rfl (val_loadBA (i := 0) ag27 sz27 rfl rfl rfl rfl) ?_
    refine wo_lit (T := (tInt .i64)) (X := ([1, 0, 1, 1] : List Int)) (ps := [(0, (.int .i64 1)), (1, (.int .i64 0)), (2, (.int .i64 1)), (3, (.int .i64 1))]) (css := [[(.int .i64 1)], [(.int .i64 0)], [(.int .i64 1)], [(.int .i64 1)]]) rfl Try.underlying49 zo3 rfl rfl (lit_reps ⟨rfl, rfl, rfl, rfl, trivial⟩) rfl rfl (by decide) fun v173 f174 cap175 h176 => ?_
    refine wo_freeze (i := 0) rfl h176 fun R178 le179 h180 => ?_
    have h181 : VRep (tSl true (tInt .i64)) R178 v173 ([1, 0, 1, 1] : List Int) := (sl_t h180 cap175)
    replace hd0 := bd_some hd0; obtain ⟨y182, c183, hd0⟩ := hd0
    refine wo_callP rfl en21 rfl (c_machines_Run (⟨_, ⟨_, _, rfl, rfl, ⟨_, _, rfl, rfl, (rep_one rfl (Sub.v (B := (tSl false (tSl false kEdge))) (sub_sl (sub_sl Sub.refl (fun _ => rfl)) (fun _ => rfl)) (h74.mono ((le80.trans le87).trans le179))))⟩⟩, rfl⟩ : VRep (kMach false false) _ _ (⟨2, 2, ([([(⟨y1.to, y1.out⟩ : Edge), (⟨y7.to, y7.out⟩ : Edge)] : List Edge), ([(⟨y18.to, y18.out⟩ : Edge), (⟨y24.to, y24.out⟩ : Edge)] : List Edge)] : List (List Edge))⟩ : Mach)) (Sub.v (B := (tSl false (tInt .i64))) (sub_sl Sub.refl (fun _ => rfl)) h181) c183) fun v184 R186 le187 h185 => ?_
    obtain ⟨v188, rfl, h189⟩ := h185
    refine wo_v rfl (val_move (v := (.tuple #[v188, (.int .i64 y182.2)])) rfl) ?_
    refine wo_v rfl (val_extract rfl rfl) ?_
    refine wo_v rfl (val_extract rfl rfl) ?_
    refine wo_v rfl (val_assign (v := v188) rfl) ?_
    refine wo_v rfl (val_assign (v := (.int .i64 y182.2)) rfl) ?_
    refine wo_nil ?_
    refine wg_seq ?_
    refine wg_region ?_
    refine wo_v rfl (val_loadBA (i := 0) ag27 sz27 rfl rfl rfl rfl) ?_
    refine wo_lit (T := (tInt .i64)) (X := ([1, 0, 1, 1] : List Int)) (ps := [(0, (.int .i64 1)), (1, (.int .i64 0)), (2, (.int .i64 1)), (3, (.int .i64 1))]) (css := [[(.int .i64 1)], [(.int .i64 0)], [(.int .i64 1)], [(.int .i64 1)]]) rfl Try.underlying49 zo3 rfl rfl (lit_reps ⟨rfl, rfl, rfl, rfl, trivial⟩) rfl rfl (by decide) fun v190 f191 cap192 h193 => ?_
    replace hd0 := bd_some hd0; obtain ⟨y198, c199, hd0⟩ := hd0
    refine wo_lend (cs := []) (vs := [(.agg #[(.int .i64 2), (.int .i64 2), v43]), (.int .i64 0), v190]) (φ := fun v => v = .tuple #[(.int .i64 y198.1), (.int .i64 y198.2)]) rfl en22 rfl rfl (fun R195 le196 ll197 => c_machines_After (⟨_, ⟨_, _, rfl, rfl, ⟨_, _, rfl, rfl, (rep_one rfl (Sub.v (B := (tSl false (tSl false kEdge))) (sub_sl (sub_sl Sub.refl (fun _ => rfl)) (fun _ => rfl)) ((h74.mono (((le80.trans le87).trans le179).trans le187)).mono le196)))⟩⟩, rfl⟩ : VRep (kMach false false) _ _ (⟨2, 2, ([([(⟨y1.to, y1.out⟩ : Edge), (⟨y7.to, y7.out⟩ : Edge)] : List Edge), ([(⟨y18.to, y18.out⟩ : Edge), (⟨y24.to, y24.out⟩ : Edge)] : List Edge)] : List (List Edge))⟩ : Mach)) (Sub.v (B := (tSl false (tInt .i64))) (sub_sl Sub.refl (fun _ => rfl)) (sl_t (t := true) (lent_o 0 rfl h193 le196 ll197) cap192)) c199) fun v200 h201 => ?_
    obtain rfl := h201
    refine wo_v rfl (val_move (v := (.tuple #[(.int .i64 y198.1), (.int .i64 y198.2)])) rfl) ?_
    refine wo_v rfl (val_extract rfl rfl) ?_
    refine wo_v rfl (val_extract rfl rfl) ?_
    refine wo_v rfl (val_assign (v := (.int .i64 y198.1)) rfl) ?_
    refine wo_v rfl (val_assign (v := (.int .i64 y198.2)) rfl) ?_
    refine wo_nil ?_
    refine wg_seq ?_
    refine wg_region ?_
    refine wo_v rfl (val_loadBA (i := 1) ag27 sz27 rfl rfl rfl rfl) ?_
    refine wo_lit (T := (tInt .i64)) (X := ([0, 0, 1] : List Int)) (ps := [(0, (.int .i64 0)), (1, (.int .i64 0)), (2, (.int .i64 1))]) (css := [[(.int .i64 0)], [(.int .i64 0)], [(.int .i64 1)]]) rfl Try.underlying49 zo3 rfl rfl (lit_reps ⟨rfl, rfl, rfl, trivial⟩) rfl rfl (by decide) fun v202 f203 cap204 h205 => ?_
    refine wo_freeze (i := 0) rfl h205 fun R207 le208 h209 => ?_
    have h210 : VRep (tSl true (tInt .i64)) R207 v202 ([0, 0, 1] : List Int) := (sl_t h209 cap204)
    replace hd0 := bd_some hd0; obtain ⟨y211, c212, hd0⟩ := hd0
    refine wo_callP rfl en21 rfl (c_machines_Run (⟨_, ⟨_, _, rfl, rfl, ⟨_, _, rfl, rfl, (rep_one rfl (Sub.v (B := (tSl false (tSl false kEdge))) (sub_sl (sub_sl Sub.refl (fun _ => rfl)) (fun _ => rfl)) (h74.mono ((((le80.trans le87).trans le179).trans le187).trans le208))))⟩⟩, rfl⟩ : VRep (kMach false false) _ _ (⟨2, 2, ([([(⟨y1.to, y1.out⟩ : Edge), (⟨y7.to, y7.out⟩ : Edge)] : List Edge), ([(⟨y18.to, y18.out⟩ : Edge), (⟨y24.to, y24.out⟩ : Edge)] : List Edge)] : List (List Edge))⟩ : Mach)) (Sub.v (B := (tSl false (tInt .i64))) (sub_sl Sub.refl (fun _ => rfl)) h210) c212) fun v213 R215 le216 h214 => ?_
    obtain ⟨v217, rfl, h218⟩ := h214
    refine wo_v rfl (val_move (v := (.tuple #[v217, (.int .i64 y211.2)])) rfl) ?_
    refine wo_v rfl (val_extract rfl rfl) ?_
    refine wo_v rfl (val_extract rfl rfl) ?_
    refine wo_v rfl (val_assign (v := v217) rfl) ?_
    refine wo_v rfl (val_assign (v := (.int .i64 y211.2)) rfl) ?_
    refine wo_nil ?_
    refine wg_seq ?_
    refine wg_region ?_
    refine wo_v rfl (val_loadBA (i := 1) ag27 sz27 rfl rfl rfl rfl) ?_
    refine wo_lit (T := (tInt .i64)) (X := ([0, 0, 1] : List Int)) (ps := [(0, (.int .i64 0)), (1, (.int .i64 0)), (2, (.int .i64 1))]) (css := [[(.int .i64 0)], [(.int .i64 0)], [(.int .i64 1)]]) rfl Try.underlying49 zo3 rfl rfl (lit_reps ⟨rfl, rfl, rfl, trivial⟩) rfl rfl (by decide) fun v219 f220 cap221 h222 => ?_
    replace hd0 := bd_some hd0; obtain ⟨y227, c228, hd0⟩ := hd0
    refine wo_lend (cs := []) (vs := [(.agg #[(.int .i64 2), (.int .i64 2), v43]), (.int .i64 0), v219]) (φ := fun v => v = .tuple #[(.int .i64 y227.1), (.int .i64 y227.2)]) rfl en22 rfl rfl (fun R224 le225 ll226 => c_machines_After (⟨_, ⟨_, _, rfl, rfl, ⟨_, _, rfl, rfl, (rep_one rfl (Sub.v (B := (tSl false (tSl false kEdge))) (sub_sl (sub_sl Sub.refl (fun _ => rfl)) (fun _ => rfl)) ((h74.mono (((((le80.trans le87).trans le179).trans le187).trans le208).trans le216)).mono le225)))⟩⟩, rfl⟩ : VRep (kMach false false) _ _ (⟨2, 2, ([([(⟨y1.to, y1.out⟩ : Edge), (⟨y7.to, y7.out⟩ : Edge)] : List Edge), ([(⟨y18.to, y18.out⟩ : Edge), (⟨y24.to, y24.out⟩ : Edge)] : List Edge)] : List (List Edge))⟩ : Mach)) (Sub.v (B := (tSl false (tInt .i64))) (sub_sl Sub.refl (fun _ => rfl)) (sl_t (t := true) (lent_o 0 rfl h222 le225 ll226) cap221)) c228) fun v229 h230 => ?_
    obtain rfl := h230
    refine wo_v rfl (val_move (v := (.tuple #[(.int .i64 y227.1), (.int .i64 y227.2)])) rfl) ?_
    refine wo_v rfl (val_extract rfl rfl) ?_
    refine wo_v rfl (val_extract rfl rfl) ?_
    refine wo_v rfl (val_assign (v := (.int .i64 y227.1)) rfl) ?_
    refine wo_v rfl (val_assign (v := (.int .i64 y227.2)) rfl) ?_
    refine wo_nil ?_
    refine wg_seq ?_
    refine wg_region ?_
    refine wo_v rfl (val_loadBA (i := 2) ag27 sz27 rfl rfl rfl rfl) ?_
    replace hd0 := bd_some hd0; obtain ⟨y231, c232, hd0⟩ := hd0
    refine wo_callP rfl en26 rfl (c_machines_Step (⟨_, ⟨_, _, rfl, rfl, ⟨_, _, rfl, rfl, (rep_one rfl (Sub.v (B := (tSl false (tSl false kEdge))) (sub_sl (sub_sl Sub.refl (fun _ => rfl)) (fun _ => rfl)) (h74.mono (((((le80.trans le87).trans le179).trans le187).trans le208).trans le216))))⟩⟩, rfl⟩ : VRep (kMach false false) _ _ (⟨2, 2, ([([(⟨y1.to, y1.out⟩ : Edge), (⟨y7.to, y7.out⟩ : Edge)] : List Edge), ([(⟨y18.to, y18.out⟩ : Edge), (⟨y24.to, y24.out⟩ : Edge)] : List Edge)] : List (List Edge))⟩ : Mach)) c232) fun v233 R235 le236 h234 => ?_
    obtain rfl := h234
    refine wo_v rfl (val_move (v := (.tuple #[(enc_Edge y231.1), (.int .i64 y231.2)])) rfl) ?_
    refine wo_v rfl (val_extract rfl rfl) ?_
    refine wo_v rfl (val_extract rfl rfl) ?_
    refine wo_alloc rfl za40 fun b237 => ?_
    refine wo_store (i := 0) (vs := [(.int .i64 y231.1.to), (.int .i64 y231.1.out)]) sz40 rfl rfl rfl rfl rfl rfl (one_cons rfl (one_cons rfl one_nil)) ?_
    refine wo_v rfl (val_assign (v := (.int .i64 y231.2)) rfl) ?_
    refine wo_nil ?_
    refine wg_seq ?_
    refine wg_region ?_
    refine wo_v rfl (val_loadBA (i := 3) ag27 sz27 rfl rfl rfl rfl) ?_
    replace hd0 := bd_some hd0; obtain ⟨y239, c240, hd0⟩ := hd0
    refine wo_callP rfl en26 rfl (c_machines_Step (⟨_, ⟨_, _, rfl, rfl, ⟨_, _, rfl, rfl, (rep_one rfl (Sub.v (B := (tSl false (tSl false kEdge))) (sub_sl (sub_sl Sub.refl (fun _ => rfl)) (fun _ => rfl)) (h74.mono ((((((le80.trans le87).trans le179).trans le187).trans le208).trans le216).trans le236))))⟩⟩, rfl⟩ : VRep (kMach false false) _ _ (⟨2, 2, ([([(⟨y1.to, y1.out⟩ : Edge), (⟨y7.to, y7.out⟩ : Edge)] : List Edge), ([(⟨y18.to, y18.out⟩ : Edge), (⟨y24.to, y24.out⟩ : Edge)] : List Edge)] : List (List Edge))⟩ : Mach)) c240) fun v241 R243 le244 h242 => ?_
    obtain rfl := h242
    refine wo_v rfl (val_move (v := (.tuple #[(enc_Edge y239.1), (.int .i64 y239.2)])) rfl) ?_
    refine wo_v rfl (val_extract rfl rfl) ?_
    refine wo_v rfl (val_extract rfl rfl) ?_
    refine wo_alloc rfl za40 fun b245 => ?_
    refine wo_store (i := 0) (vs := [(.int .i64 y239.1.to), (.int .i64 y239.1.out)]) sz40 rfl rfl rfl rfl rfl rfl (one_cons rfl (one_cons rfl one_nil)) ?_
    refine wo_v rfl (val_assign (v := (.int .i64 y239.2)) rfl) ?_
    refine wo_nil ?_
    refine wg_seq ?_
    refine wg_region ?_
    refine wo_v rfl (val_loadBA (i := 4) ag27 sz27 rfl rfl rfl rfl) ?_
    replace hd0 := bd_some hd0; obtain ⟨y247, c248, hd0⟩ := hd0
    refine wo_callP rfl en26 rfl (c_machines_Step (⟨_, ⟨_, _, rfl, rfl, ⟨_, _, rfl, rfl, (rep_one rfl (Sub.v (B := (tSl false (tSl false kEdge))) (sub_sl (sub_sl Sub.refl (fun _ => rfl)) (fun _ => rfl)) (h74.mono (((((((le80.trans le87).trans le179).trans le187).trans le208).trans le216).trans le236).trans le244))))⟩⟩, rfl⟩ : VRep (kMach false false) _ _ (⟨2, 2, ([([(⟨y1.to, y1.out⟩ : Edge), (⟨y7.to, y7.out⟩ : Edge)] : List Edge), ([(⟨y18.to, y18.out⟩ : Edge), (⟨y24.to, y24.out⟩ : Edge)] : List Edge)] : List (List Edge))⟩ : Mach)) c248) fun v249 R251 le252 h250 => ?_
    obtain rfl := h250
    refine wo_v rfl (val_move (v := (.tuple #[(enc_Edge y247.1), (.int .i64 y247.2)])) rfl) ?_
    refine wo_v rfl (val_extract rfl rfl) ?_
    refine wo_v rfl (val_extract rfl rfl) ?_
    refine wo_alloc rfl za40 fun b253 => ?_
    refine wo_store (i := 0) (vs := [(.int .i64 y247.1.to), (.int .i64 y247.1.out)]) sz40 rfl rfl rfl rfl rfl rfl (one_cons rfl (one_cons rfl one_nil)) ?_
    refine wo_v rfl (val_assign (v := (.int .i64 y247.2)) rfl) ?_
    refine wo_nil ?_
    refine wg_seq ?_
    replace hd0 := bd_some hd0; obtain ⟨y255, c256, hd0⟩ := hd0
    replace hd0 := bd_some hd0; obtain ⟨y257, c258, hd0⟩ := hd0
    refine wg_free [4, 6, 7] [(fun es => phX (.agg #[(.int .i64 2), (.int .i64 2), v43])), (fun es => phX (enc_Edge y255)), (fun es => (fun v R => ∃ u0, v = .tuple #[u0, (.int .i64 y257.2)] ∧ VRep (kMach true true) R u0 y257.1)), (fun es => (fun v R => ∃ u0, v = .tuple #[u0, (.int .i64 y257.2)] ∧ VRep (kMach true true) R u0 y257.1)), (fun es => phR (kMach true true) y257.1), (fun es => phX (.int .i64 y257.2)), (fun es => (fun v _ => v = .pointer (some ⟨blkOf v, 0, none⟩))), (fun es => (fun _ _ => True)), (fun es => phX (.int .i64 y257.2))] (fun fl es R O => (fl = [false, false, false] ∧ O.Perm ([box b253 [(.int .i64 y247.1.to), (.int .i64 y247.1.out)] 40, box b245 [(.int .i64 y239.1.to), (.int .i64 y239.1.out)] 40, box b237 [(.int .i64 y231.1.to), (.int .i64 y231.1.out)] 40, f220, f191, box b48 [(.int .i64 2), (.int .i64 2), v43] 27] ++ A) ∧ True) ∨ (fl = [true, false, false] ∧ O.Perm ([box b253 [(.int .i64 y247.1.to), (.int .i64 y247.1.out)] 40, box b245 [(.int .i64 y239.1.to), (.int .i64 y239.1.out)] 40, box b237 [(.int .i64 y231.1.to), (.int .i64 y231.1.out)] 40, f220, f191, box b48 [(.int .i64 2), (.int .i64 2), v43] 27] ++ A) ∧ True) ∨ (fl = [false, true, false] ∧ O.Perm ([box b253 [(.int .i64 y247.1.to), (.int .i64 y247.1.out)] 40, box b245 [(.int .i64 y239.1.to), (.int .i64 y239.1.out)] 40, box b237 [(.int .i64 y231.1.to), (.int .i64 y231.1.out)] 40, f220, f191, box b48 [(.int .i64 2), (.int .i64 2), v43] 27, box (blkOf (es.getD 1 undef)) [(.int .i64 0), (.int .i64 0), (.slice none 0 0)] 27] ++ A) ∧ True) ∨ (fl = [true, true, false] ∧ O.Perm ([box b253 [(.int .i64 y247.1.to), (.int .i64 y247.1.out)] 40, box b245 [(.int .i64 y239.1.to), (.int .i64 y239.1.out)] 40, box b237 [(.int .i64 y231.1.to), (.int .i64 y231.1.out)] 40, f220, f191, box b48 [(.int .i64 2), (.int .i64 2), v43] 27, box (blkOf (es.getD 1 undef)) [(.int .i64 0), (.int .i64 0), (.slice none 0 0)] 27] ++ A) ∧ True) ∨ (fl = [true, true, true] ∧ O.Perm ([box b253 [(.int .i64 y247.1.to), (.int .i64 y247.1.out)] 40, box b245 [(.int .i64 y239.1.to), (.int .i64 y239.1.out)] 40, box b237 [(.int .i64 y231.1.to), (.int .i64 y231.1.out)] 40, f220, f191, box b48 [(.int .i64 2), (.int .i64 2), v43] 27, box (blkOf (es.getD 1 undef)) [(.int .i64 y257.1.inputs), (.int .i64 y257.1.outputs), (aggC (es.getD 0 undef) 2)] 27] ++ A) ∧ True)) mixed (by kernel_rfl) ⟨(monoE_of mono_x), (monoE_of mono_x), (monoE_of (fun _ _ _ le ⟨u0, e, k0⟩ => ⟨u0, e, k0.mono le⟩)), (monoE_of (fun _ _ _ le ⟨u0, e, k0⟩ => ⟨u0, e, k0.mono le⟩)), (monoE_of mono_r), (monoE_of mono_x), (fun _ _ _ _ _ h => h), (fun _ _ _ _ _ h => h), (monoE_of mono_x), trivial⟩ (by
        rintro fl es R R' O hle (⟨rfl, hp, _⟩ | ⟨rfl, hp, _⟩ | ⟨rfl, hp, _⟩ | ⟨rfl, hp, _⟩ | ⟨rfl, hp, _⟩)
        · exact (.inl ⟨rfl, hp, trivial⟩)
        · exact (.inr (.inl ⟨rfl, hp, trivial⟩))
        · exact (.inr (.inr (.inl ⟨rfl, hp, trivial⟩)))
        · exact (.inr (.inr (.inr (.inl ⟨rfl, hp, trivial⟩))))
        · exact (.inr (.inr (.inr (.inr ⟨rfl, hp, trivial⟩))))) ⟨(fun _ _ _ _ _ h => h), (fun _ _ _ _ _ h => h), (fun _ _ _ _ _ h => h), (fun _ _ _ _ _ h => h), (fun _ _ _ _ _ h => h), (fun _ _ _ _ _ h => h), (fun _ _ _ _ _ h => h), (fun _ _ _ _ _ h => h), (fun _ _ _ _ _ h => h), trivial⟩ (fun es => .inl ⟨rfl, (List.Perm.refl _), trivial⟩) ⟨?_, ?_, ?_, ?_, ?_, ?_, ?_, ?_, ?_, trivial⟩ fun R260 le261 => ?_
    · intro l R0q fl O hle ha hd hk hW
      have a1 : l 1 = (.pointer (some ⟨b48, 0, none⟩)) := ha 1 rfl
      rcases hW with ⟨rfl, hp, _⟩ | ⟨rfl, hp, _⟩ | ⟨rfl, hp, _⟩ | ⟨rfl, hp, _⟩ | ⟨rfl, hp, _⟩
      · exact eff_permP hp (ph_val (val_loadBA (i := 5) ag27 sz27 a1 rfl rfl rfl))
      · exact kn_no hk (by kernel_rfl)
      · exact eff_permP hp (ph_val (val_loadBA (i := 5) ag27 sz27 a1 rfl rfl rfl))
      · exact kn_no hk (by kernel_rfl)
      · exact kn_no hk (by kernel_rfl)
    · intro l R1q fl O hle ha hd hk hW
      exact ph_callP en18 rfl (c_gauntletlaw04_edge  c256) (fun _ _ h => h)
    · intro l R2q fl O hle ha hd hk hW
      obtain ⟨d0, d1, d2, _⟩ := hd
      have f142 : l 142 = (.agg #[(.int .i64 2), (.int .i64 2), v43]) := d0 rfl
      have f143 : l 143 = (enc_Edge y255) := d1 rfl
      exact ph_callP en33 (by simp only [List.map, ev, f142, f143] <;> rfl) (c_machines_With (⟨_, ⟨_, _, rfl, rfl, ⟨_, _, rfl, rfl, (rep_one rfl (Sub.v (B := (tSl false (tSl false kEdge))) (sub_sl (sub_sl Sub.refl (fun _ => rfl)) (fun _ => rfl)) ((h74.mono ((((((((le80.trans le87).trans le179).trans le187).trans le208).trans le216).trans le236).trans le244).trans le252)).mono hle)))⟩⟩, rfl⟩ : VRep (kMach false false) _ _ (⟨2, 2, ([([(⟨y1.to, y1.out⟩ : Edge), (⟨y7.to, y7.out⟩ : Edge)] : List Edge), ([(⟨y18.to, y18.out⟩ : Edge), (⟨y24.to, y24.out⟩ : Edge)] : List Edge)] : List (List Edge))⟩ : Mach)) c258) (fun _ _ h => h)
    · intro l R3q fl O hle ha hd hk hW
      obtain ⟨d0, _⟩ := hd
      have f144 : (fun v R => ∃ u0, v = .tuple #[u0, (.int .i64 y257.2)] ∧ VRep (kMach true true) R u0 y257.1) (l 144) R3q := d0 rfl
      exact Val.phi (val_move rfl) f144
    · intro l R4q fl O hle ha hd hk hf hW
      obtain ⟨d0, _⟩ := hd
      have f141 : (fun v R => ∃ u0, v = .tuple #[u0, (.int .i64 y257.2)] ∧ VRep (kMach true true) R u0 y257.1) (l 141) R4q := d0 rfl
      obtain ⟨u0, ht, hu0⟩ := f141
      rcases hW with ⟨rfl, hp, _⟩ | ⟨rfl, hp, _⟩ | ⟨rfl, hp, _⟩ | ⟨rfl, hp, _⟩ | ⟨rfl, hp, _⟩
      · refine Eff.mono (ph_rep (val_extract ht rfl) hu0) ?_
        rintro v R' O' hle' ⟨rfl, hv⟩
        exact ⟨hv, .inr (.inl ⟨rfl, hp, trivial⟩)⟩
      · cases hf
      · refine Eff.mono (ph_rep (val_extract ht rfl) hu0) ?_
        rintro v R' O' hle' ⟨rfl, hv⟩
        exact ⟨hv, .inr (.inr (.inr (.inl ⟨rfl, hp, trivial⟩)))⟩
      · cases hf
      · cases hf
    · intro l R5q fl O hle ha hd hk hW
      obtain ⟨d0, d1, _⟩ := hd
      have f141 : (fun v R => ∃ u0, v = .tuple #[u0, (.int .i64 y257.2)] ∧ VRep (kMach true true) R u0 y257.1) (l 141) R5q := d0 rfl
      obtain ⟨u0, ht, hu0⟩ := f141
      exact ph_val (val_extract ht rfl)
    · intro l R6q fl O hle ha hd hk hf hW
      rcases hW with ⟨rfl, hp, _⟩ | ⟨rfl, hp, _⟩ | ⟨rfl, hp, _⟩ | ⟨rfl, hp, _⟩ | ⟨rfl, hp, _⟩
      · refine eff_perm hp ?_
        refine Eff.mono (eff_alloc za27) ?_
        rintro v R' O' hle' ⟨rfl, b, rfl, rfl⟩
        exact ⟨rfl, .inr (.inr (.inl ⟨rfl, (pk 1 rfl (pk 1 rfl (pk 1 rfl (pk 1 rfl (pk 1 rfl (pk 1 rfl (pk 0 rfl (List.Perm.refl _)))))))), trivial⟩))⟩
      · refine eff_perm hp ?_
        refine Eff.mono (eff_alloc za27) ?_
        rintro v R' O' hle' ⟨rfl, b, rfl, rfl⟩
        exact ⟨rfl, .inr (.inr (.inr (.inl ⟨rfl, (pk 1 rfl (pk 1 rfl (pk 1 rfl (pk 1 rfl (pk 1 rfl (pk 1 rfl (pk 0 rfl (List.Perm.refl _)))))))), trivial⟩)))⟩
      · cases hf
      · cases hf
      · cases hf
    · intro l R7q fl O hle ha hd hk hf hW
      obtain ⟨d0, d1, d2, d3, d4, d5, d6, d7, d8, d9, _⟩ := hd
      have f24 : l 24 = (.pointer (some ⟨(blkOf (l 24)), 0, none⟩)) := d0 rfl
      have f145 : phR (kMach true true) y257.1 (l 145) R7q := d1 rfl
      rcases hW with ⟨rfl, hp, _⟩ | ⟨rfl, hp, _⟩ | ⟨rfl, hp, _⟩ | ⟨rfl, hp, _⟩ | ⟨rfl, hp, _⟩
      · exact kn_no hk (by kernel_rfl)
      · exact kn_no hk (by kernel_rfl)
      · exact kn_no hk (by kernel_rfl)
      · refine eff_perm hp ?_
        obtain ⟨hx1, hy0⟩ := acell_Mach f145
        refine Eff.mono (eff_store (i := 6) (vs := [(.int .i64 y257.1.inputs), (.int .i64 y257.1.outputs), (aggC (l 145) 2)]) sz27 f24 rfl (congrArg Value.cells hx1) rfl rfl (Nat.le_of_ble_eq_true rfl) (one_cons rfl (one_cons rfl (one_cons (sl_one hy0) one_nil)))) ?_
        rintro v R' O' hle' ⟨_, rfl, rfl⟩
        exact ⟨trivial, .inr (.inr (.inr (.inr ⟨rfl, (List.Perm.refl _), trivial⟩)))⟩
      · cases hf
    · intro l R8q fl O hle ha hd hk hW
      obtain ⟨d0, d1, d2, d3, d4, d5, d6, d7, d8, d9, _⟩ := hd
      have f146 : l 146 = (.int .i64 y257.2) := d0 rfl
      exact ph_val (val_assign f146)
    intro v262
    intro v263
    intro v264
    intro v265
    intro v266
    intro v267
    intro v268
    intro v269
    intro h270
    intro h271
    intro h272
    intro h273
    intro h274
    intro h275
    intro h276
    intro h277
    rintro OO278 (⟨e, _⟩ | ⟨e, _⟩ | ⟨e, _⟩ | ⟨e, _⟩ | ⟨_, hp, _⟩)
    · cases e
    · cases e
    · cases e
    · cases e
    refine ⟨[], _, hp, ?_⟩
    obtain ⟨_, h279⟩ := acell_Mach (show VRep (kMach true true) R260 v266 y257.1 from h274)
    obtain ⟨b280, rfl⟩ : ∃ b, v268 = .pointer (some ⟨b, 0, none⟩) := ⟨_, h276⟩
    obtain rfl := Eq.symm h270
    obtain rfl := Eq.symm h271
    obtain ⟨v281, rfl, h282⟩ := h272
    obtain ⟨v283, rfl, h284⟩ := h273
    obtain rfl := Eq.symm h275
    obtain rfl := Eq.symm h277
    refine wo_nil ?_
    refine wg_seq ?_
    refine wg_region ?_
    refine wo_v rfl (val_loadBA (i := 6) ag27 sz27 rfl rfl rfl rfl) ?_
    replace hd0 := bd_some hd0; obtain ⟨y285, c286, hd0⟩ := hd0
    refine wo_callP rfl en11 rfl (c_machines_Complete (⟨_, ⟨_, _, rfl, rfl, ⟨_, _, rfl, rfl, (rep_one rfl (Sub.v (B := (tSl false (tSl false kEdge))) (sub_sl (sub_sl Sub.refl (fun _ => rfl)) (fun _ => rfl)) h279))⟩⟩, rfl⟩ : VRep (kMach false false) _ _ (⟨y257.1.inputs, y257.1.outputs, y257.1.rows⟩ : Mach)) c286) fun v287 R289 le290 h288 => ?_
    obtain rfl := h288
    refine wo_v rfl (val_move (v := (.tuple #[(.bool y285.1), (.int .i64 y285.2)])) rfl) ?_
    refine wo_v rfl (val_extract rfl rfl) ?_
    refine wo_v rfl (val_extract rfl rfl) ?_
    refine wo_v rfl (val_assign (v := (.bool y285.1)) rfl) ?_
    refine wo_v rfl (val_assign (v := (.int .i64 y285.2)) rfl) ?_
    refine wo_nil ?_
    refine wg_seq ?_
    replace hd0 := bd_some hd0; obtain ⟨y291, c292, hd0⟩ := hd0
    replace hd0 := bd_some hd0; obtain ⟨y293, c294, hd0⟩ := hd0
    refine wg_free [4, 6, 7] [(fun es => phX (.agg #[(.int .i64 2), (.int .i64 2), v43])), (fun es => phX (enc_Edge y291)), (fun es => (fun v R => ∃ u0, v = .tuple #[u0, (.int .i64 y293.2)] ∧ VRep (kMach true true) R u0 y293.1)), (fun es => (fun v R => ∃ u0, v = .tuple #[u0, (.int .i64 y293.2)] ∧ VRep (kMach true true) R u0 y293.1)), (fun es => phR (kMach true true) y293.1), (fun es => phX (.int .i64 y293.2)), (fun es => (fun v _ => v = .pointer (some ⟨blkOf v, 0, none⟩))), (fun es => (fun _ _ => True)), (fun es => phX (.int .i64 y293.2))] (fun fl es R O => (fl = [false, false, false] ∧ O.Perm ([box b253 [(.int .i64 y247.1.to), (.int .i64 y247.1.out)] 40, box b245 [(.int .i64 y239.1.to), (.int .i64 y239.1.out)] 40, box b237 [(.int .i64 y231.1.to), (.int .i64 y231.1.out)] 40, f220, f191, box b48 [(.int .i64 2), (.int .i64 2), v43] 27, box b280 [(.int .i64 y257.1.inputs), (.int .i64 y257.1.outputs), (aggC v266 2)] 27] ++ A) ∧ True) ∨ (fl = [true, false, false] ∧ O.Perm ([box b253 [(.int .i64 y247.1.to), (.int .i64 y247.1.out)] 40, box b245 [(.int .i64 y239.1.to), (.int .i64 y239.1.out)] 40, box b237 [(.int .i64 y231.1.to), (.int .i64 y231.1.out)] 40, f220, f191, box b48 [(.int .i64 2), (.int .i64 2), v43] 27, box b280 [(.int .i64 y257.1.inputs), (.int .i64 y257.1.outputs), (aggC v266 2)] 27] ++ A) ∧ True) ∨ (fl = [false, true, false] ∧ O.Perm ([box b253 [(.int .i64 y247.1.to), (.int .i64 y247.1.out)] 40, box b245 [(.int .i64 y239.1.to), (.int .i64 y239.1.out)] 40, box b237 [(.int .i64 y231.1.to), (.int .i64 y231.1.out)] 40, f220, f191, box b48 [(.int .i64 2), (.int .i64 2), v43] 27, box b280 [(.int .i64 y257.1.inputs), (.int .i64 y257.1.outputs), (aggC v266 2)] 27, box (blkOf (es.getD 1 undef)) [(.int .i64 0), (.int .i64 0), (.slice none 0 0)] 27] ++ A) ∧ True) ∨ (fl = [true, true, false] ∧ O.Perm ([box b253 [(.int .i64 y247.1.to), (.int .i64 y247.1.out)] 40, box b245 [(.int .i64 y239.1.to), (.int .i64 y239.1.out)] 40, box b237 [(.int .i64 y231.1.to), (.int .i64 y231.1.out)] 40, f220, f191, box b48 [(.int .i64 2), (.int .i64 2), v43] 27, box b280 [(.int .i64 y257.1.inputs), (.int .i64 y257.1.outputs), (aggC v266 2)] 27, box (blkOf (es.getD 1 undef)) [(.int .i64 0), (.int .i64 0), (.slice none 0 0)] 27] ++ A) ∧ True) ∨ (fl = [true, true, true] ∧ O.Perm ([box b253 [(.int .i64 y247.1.to), (.int .i64 y247.1.out)] 40, box b245 [(.int .i64 y239.1.to), (.int .i64 y239.1.out)] 40, box b237 [(.int .i64 y231.1.to), (.int .i64 y231.1.out)] 40, f220, f191, box b48 [(.int .i64 2), (.int .i64 2), v43] 27, box b280 [(.int .i64 y257.1.inputs), (.int .i64 y257.1.outputs), (aggC v266 2)] 27, box (blkOf (es.getD 1 undef)) [(.int .i64 y293.1.inputs), (.int .i64 y293.1.outputs), (aggC (es.getD 0 undef) 2)] 27] ++ A) ∧ True)) mixed (by kernel_rfl) ⟨(monoE_of mono_x), (monoE_of mono_x), (monoE_of (fun _ _ _ le ⟨u0, e, k0⟩ => ⟨u0, e, k0.mono le⟩)), (monoE_of (fun _ _ _ le ⟨u0, e, k0⟩ => ⟨u0, e, k0.mono le⟩)), (monoE_of mono_r), (monoE_of mono_x), (fun _ _ _ _ _ h => h), (fun _ _ _ _ _ h => h), (monoE_of mono_x), trivial⟩ (by
        rintro fl es R R' O hle (⟨rfl, hp, _⟩ | ⟨rfl, hp, _⟩ | ⟨rfl, hp, _⟩ | ⟨rfl, hp, _⟩ | ⟨rfl, hp, _⟩)
        · exact (.inl ⟨rfl, hp, trivial⟩)
        · exact (.inr (.inl ⟨rfl, hp, trivial⟩))
        · exact (.inr (.inr (.inl ⟨rfl, hp, trivial⟩)))
        · exact (.inr (.inr (.inr (.inl ⟨rfl, hp, trivial⟩))))
        · exact (.inr (.inr (.inr (.inr ⟨rfl, hp, trivial⟩))))) ⟨(fun _ _ _ _ _ h => h), (fun _ _ _ _ _ h => h), (fun _ _ _ _ _ h => h), (fun _ _ _ _ _ h => h), (fun _ _ _ _ _ h => h), (fun _ _ _ _ _ h => h), (fun _ _ _ _ _ h => h), (fun _ _ _ _ _ h => h), (fun _ _ _ _ _ h => h), trivial⟩ (fun es => .inl ⟨rfl, (List.Perm.refl _), trivial⟩) ⟨?_, ?_, ?_, ?_, ?_, ?_, ?_, ?_, ?_, trivial⟩ fun R296 le297 => ?_
    · intro l R0q fl O hle ha hd hk hW
      have a1 : l 1 = (.pointer (some ⟨b48, 0, none⟩)) := ha 1 rfl
      rcases hW with ⟨rfl, hp, _⟩ | ⟨rfl, hp, _⟩ | ⟨rfl, hp, _⟩ | ⟨rfl, hp, _⟩ | ⟨rfl, hp, _⟩
      · exact eff_permP hp (ph_val (val_loadBA (i := 5) ag27 sz27 a1 rfl rfl rfl))
      · exact kn_no hk (by kernel_rfl)
      · exact eff_permP hp (ph_val (val_loadBA (i := 5) ag27 sz27 a1 rfl rfl rfl))
      · exact kn_no hk (by kernel_rfl)
      · exact kn_no hk (by kernel_rfl)
    · intro l R1q fl O hle ha hd hk hW
      exact ph_callP en18 rfl (c_gauntletlaw04_edge  c292) (fun _ _ h => h)
    · intro l R2q fl O hle ha hd hk hW
      obtain ⟨d0, d1, d2, _⟩ := hd
      have f153 : l 153 = (.agg #[(.int .i64 2), (.int .i64 2), v43]) := d0 rfl
      have f154 : l 154 = (enc_Edge y291) := d1 rfl
      exact ph_callP en33 (by simp only [List.map, ev, f153, f154] <;> rfl) (c_machines_With (⟨_, ⟨_, _, rfl, rfl, ⟨_, _, rfl, rfl, (rep_one rfl (Sub.v (B := (tSl false (tSl false kEdge))) (sub_sl (sub_sl Sub.refl (fun _ => rfl)) (fun _ => rfl)) ((h74.mono ((((((((((le80.trans le87).trans le179).trans le187).trans le208).trans le216).trans le236).trans le244).trans le252).trans le261).trans le290)).mono hle)))⟩⟩, rfl⟩ : VRep (kMach false false) _ _ (⟨2, 2, ([([(⟨y1.to, y1.out⟩ : Edge), (⟨y7.to, y7.out⟩ : Edge)] : List Edge), ([(⟨y18.to, y18.out⟩ : Edge), (⟨y24.to, y24.out⟩ : Edge)] : List Edge)] : List (List Edge))⟩ : Mach)) c294) (fun _ _ h => h)
    · intro l R3q fl O hle ha hd hk hW
      obtain ⟨d0, _⟩ := hd
      have f155 : (fun v R => ∃ u0, v = .tuple #[u0, (.int .i64 y293.2)] ∧ VRep (kMach true true) R u0 y293.1) (l 155) R3q := d0 rfl
      exact Val.phi (val_move rfl) f155
    · intro l R4q fl O hle ha hd hk hf hW
      obtain ⟨d0, _⟩ := hd
      have f152 : (fun v R => ∃ u0, v = .tuple #[u0, (.int .i64 y293.2)] ∧ VRep (kMach true true) R u0 y293.1) (l 152) R4q := d0 rfl
      obtain ⟨u0, ht, hu0⟩ := f152
      rcases hW with ⟨rfl, hp, _⟩ | ⟨rfl, hp, _⟩ | ⟨rfl, hp, _⟩ | ⟨rfl, hp, _⟩ | ⟨rfl, hp, _⟩
      · refine Eff.mono (ph_rep (val_extract ht rfl) hu0) ?_
        rintro v R' O' hle' ⟨rfl, hv⟩
        exact ⟨hv, .inr (.inl ⟨rfl, hp, trivial⟩)⟩
      · cases hf
      · refine Eff.mono (ph_rep (val_extract ht rfl) hu0) ?_
        rintro v R' O' hle' ⟨rfl, hv⟩
        exact ⟨hv, .inr (.inr (.inr (.inl ⟨rfl, hp, trivial⟩)))⟩
      · cases hf
      · cases hf
    · intro l R5q fl O hle ha hd hk hW
      obtain ⟨d0, d1, _⟩ := hd
      have f152 : (fun v R => ∃ u0, v = .tuple #[u0, (.int .i64 y293.2)] ∧ VRep (kMach true true) R u0 y293.1) (l 152) R5q := d0 rfl
      obtain ⟨u0, ht, hu0⟩ := f152
      exact ph_val (val_extract ht rfl)
    · intro l R6q fl O hle ha hd hk hf hW
      rcases hW with ⟨rfl, hp, _⟩ | ⟨rfl, hp, _⟩ | ⟨rfl, hp, _⟩ | ⟨rfl, hp, _⟩ | ⟨rfl, hp, _⟩
      · refine eff_perm hp ?_
        refine Eff.mono (eff_alloc za27) ?_
        rintro v R' O' hle' ⟨rfl, b, rfl, rfl⟩
        exact ⟨rfl, .inr (.inr (.inl ⟨rfl, (pk 1 rfl (pk 1 rfl (pk 1 rfl (pk 1 rfl (pk 1 rfl (pk 1 rfl (pk 1 rfl (pk 0 rfl (List.Perm.refl _))))))))), trivial⟩))⟩
      · refine eff_perm hp ?_
        refine Eff.mono (eff_alloc za27) ?_
        rintro v R' O' hle' ⟨rfl, b, rfl, rfl⟩
        exact ⟨rfl, .inr (.inr (.inr (.inl ⟨rfl, (pk 1 rfl (pk 1 rfl (pk 1 rfl (pk 1 rfl (pk 1 rfl (pk 1 rfl (pk 1 rfl (pk 0 rfl (List.Perm.refl _))))))))), trivial⟩)))⟩
      · cases hf
      · cases hf
      · cases hf
    · intro l R7q fl O hle ha hd hk hf hW
      obtain ⟨d0, d1, d2, d3, d4, d5, d6, d7, d8, d9, _⟩ := hd
      have f28 : l 28 = (.pointer (some ⟨(blkOf (l 28)), 0, none⟩)) := d0 rfl
      have f156 : phR (kMach true true) y293.1 (l 156) R7q := d1 rfl
      rcases hW with ⟨rfl, hp, _⟩ | ⟨rfl, hp, _⟩ | ⟨rfl, hp, _⟩ | ⟨rfl, hp, _⟩ | ⟨rfl, hp, _⟩
      · exact kn_no hk (by kernel_rfl)
      · exact kn_no hk (by kernel_rfl)
      · exact kn_no hk (by kernel_rfl)
      · refine eff_perm hp ?_
        obtain ⟨hx1, hy0⟩ := acell_Mach f156
        refine Eff.mono (eff_store (i := 7) (vs := [(.int .i64 y293.1.inputs), (.int .i64 y293.1.outputs), (aggC (l 156) 2)]) sz27 f28 rfl (congrArg Value.cells hx1) rfl rfl (Nat.le_of_ble_eq_true rfl) (one_cons rfl (one_cons rfl (one_cons (sl_one hy0) one_nil)))) ?_
        rintro v R' O' hle' ⟨_, rfl, rfl⟩
        exact ⟨trivial, .inr (.inr (.inr (.inr ⟨rfl, (List.Perm.refl _), trivial⟩)))⟩
      · cases hf
    · intro l R8q fl O hle ha hd hk hW
      obtain ⟨d0, d1, d2, d3, d4, d5, d6, d7, d8, d9, _⟩ := hd
      have f157 : l 157 = (.int .i64 y293.2) := d0 rfl
      exact ph_val (val_assign f157)
    intro v298
    intro v299
    intro v300
    intro v301
    intro v302
    intro v303
    intro v304
    intro v305
    intro h306
    intro h307
    intro h308
    intro h309
    intro h310
    intro h311
    intro h312
    intro h313
    rintro OO314 (⟨e, _⟩ | ⟨e, _⟩ | ⟨e, _⟩ | ⟨e, _⟩ | ⟨_, hp, _⟩)
    · cases e
    · cases e
    · cases e
    · cases e
    refine ⟨[], _, hp, ?_⟩
    obtain ⟨_, h315⟩ := acell_Mach (show VRep (kMach true true) R296 v302 y293.1 from h310)
    obtain ⟨b316, rfl⟩ : ∃ b, v304 = .pointer (some ⟨b, 0, none⟩) := ⟨_, h312⟩
    obtain rfl := Eq.symm h306
    obtain rfl := Eq.symm h307
    obtain ⟨v317, rfl, h318⟩ := h308
    obtain ⟨v319, rfl, h320⟩ := h309
    obtain rfl := Eq.symm h311
    obtain rfl := Eq.symm h313
    refine wo_nil ?_
    refine wg_seq ?_
    replace hd0 := bd_some hd0; obtain ⟨y321, c322, hd0⟩ := hd0
    replace hd0 := bd_some hd0; obtain ⟨y323, c324, hd0⟩ := hd0
    refine wg_free [4, 6, 7] [(fun es => phX (.agg #[(.int .i64 2), (.int .i64 2), v43])), (fun es => phX (enc_Edge y321)), (fun es => (fun v R => ∃ u0, v = .tuple #[u0, (.int .i64 y323.2)] ∧ VRep (kMach true true) R u0 y323.1)), (fun es => (fun v R => ∃ u0, v = .tuple #[u0, (.int .i64 y323.2)] ∧ VRep (kMach true true) R u0 y323.1)), (fun es => phR (kMach true true) y323.1), (fun es => phX (.int .i64 y323.2)), (fun es => (fun v _ => v = .pointer (some ⟨blkOf v, 0, none⟩))), (fun es => (fun _ _ => True)), (fun es => phX (.int .i64 y323.2))] (fun fl es R O => (fl = [false, false, false] ∧ O.Perm ([box b253 [(.int .i64 y247.1.to), (.int .i64 y247.1.out)] 40, box b245 [(.int .i64 y239.1.to), (.int .i64 y239.1.out)] 40, box b237 [(.int .i64 y231.1.to), (.int .i64 y231.1.out)] 40, f220, f191, box b48 [(.int .i64 2), (.int .i64 2), v43] 27, box b280 [(.int .i64 y257.1.inputs), (.int .i64 y257.1.outputs), (aggC v266 2)] 27, box b316 [(.int .i64 y293.1.inputs), (.int .i64 y293.1.outputs), (aggC v302 2)] 27] ++ A) ∧ True) ∨ (fl = [true, false, false] ∧ O.Perm ([box b253 [(.int .i64 y247.1.to), (.int .i64 y247.1.out)] 40, box b245 [(.int .i64 y239.1.to), (.int .i64 y239.1.out)] 40, box b237 [(.int .i64 y231.1.to), (.int .i64 y231.1.out)] 40, f220, f191, box b48 [(.int .i64 2), (.int .i64 2), v43] 27, box b280 [(.int .i64 y257.1.inputs), (.int .i64 y257.1.outputs), (aggC v266 2)] 27, box b316 [(.int .i64 y293.1.inputs), (.int .i64 y293.1.outputs), (aggC v302 2)] 27] ++ A) ∧ True) ∨ (fl = [false, true, false] ∧ O.Perm ([box b253 [(.int .i64 y247.1.to), (.int .i64 y247.1.out)] 40, box b245 [(.int .i64 y239.1.to), (.int .i64 y239.1.out)] 40, box b237 [(.int .i64 y231.1.to), (.int .i64 y231.1.out)] 40, f220, f191, box b48 [(.int .i64 2), (.int .i64 2), v43] 27, box b280 [(.int .i64 y257.1.inputs), (.int .i64 y257.1.outputs), (aggC v266 2)] 27, box b316 [(.int .i64 y293.1.inputs), (.int .i64 y293.1.outputs), (aggC v302 2)] 27, box (blkOf (es.getD 1 undef)) [(.int .i64 0), (.int .i64 0), (.slice none 0 0)] 27] ++ A) ∧ True) ∨ (fl = [true, true, false] ∧ O.Perm ([box b253 [(.int .i64 y247.1.to), (.int .i64 y247.1.out)] 40, box b245 [(.int .i64 y239.1.to), (.int .i64 y239.1.out)] 40, box b237 [(.int .i64 y231.1.to), (.int .i64 y231.1.out)] 40, f220, f191, box b48 [(.int .i64 2), (.int .i64 2), v43] 27, box b280 [(.int .i64 y257.1.inputs), (.int .i64 y257.1.outputs), (aggC v266 2)] 27, box b316 [(.int .i64 y293.1.inputs), (.int .i64 y293.1.outputs), (aggC v302 2)] 27, box (blkOf (es.getD 1 undef)) [(.int .i64 0), (.int .i64 0), (.slice none 0 0)] 27] ++ A) ∧ True) ∨ (fl = [true, true, true] ∧ O.Perm ([box b253 [(.int .i64 y247.1.to), (.int .i64 y247.1.out)] 40, box b245 [(.int .i64 y239.1.to), (.int .i64 y239.1.out)] 40, box b237 [(.int .i64 y231.1.to), (.int .i64 y231.1.out)] 40, f220, f191, box b48 [(.int .i64 2), (.int .i64 2), v43] 27, box b280 [(.int .i64 y257.1.inputs), (.int .i64 y257.1.outputs), (aggC v266 2)] 27, box b316 [(.int .i64 y293.1.inputs), (.int .i64 y293.1.outputs), (aggC v302 2)] 27, box (blkOf (es.getD 1 undef)) [(.int .i64 y323.1.inputs), (.int .i64 y323.1.outputs), (aggC (es.getD 0 undef) 2)] 27] ++ A) ∧ True)) mixed (by kernel_rfl) ⟨(monoE_of mono_x), (monoE_of mono_x), (monoE_of (fun _ _ _ le ⟨u0, e, k0⟩ => ⟨u0, e, k0.mono le⟩)), (monoE_of (fun _ _ _ le ⟨u0, e, k0⟩ => ⟨u0, e, k0.mono le⟩)), (monoE_of mono_r), (monoE_of mono_x), (fun _ _ _ _ _ h => h), (fun _ _ _ _ _ h => h), (monoE_of mono_x), trivial⟩ (by
        rintro fl es R R' O hle (⟨rfl, hp, _⟩ | ⟨rfl, hp, _⟩ | ⟨rfl, hp, _⟩ | ⟨rfl, hp, _⟩ | ⟨rfl, hp, _⟩)
        · exact (.inl ⟨rfl, hp, trivial⟩)
        · exact (.inr (.inl ⟨rfl, hp, trivial⟩))
        · exact (.inr (.inr (.inl ⟨rfl, hp, trivial⟩)))
        · exact (.inr (.inr (.inr (.inl ⟨rfl, hp, trivial⟩))))
        · exact (.inr (.inr (.inr (.inr ⟨rfl, hp, trivial⟩))))) ⟨(fun _ _ _ _ _ h => h), (fun _ _ _ _ _ h => h), (fun _ _ _ _ _ h => h), (fun _ _ _ _ _ h => h), (fun _ _ _ _ _ h => h), (fun _ _ _ _ _ h => h), (fun _ _ _ _ _ h => h), (fun _ _ _ _ _ h => h), (fun _ _ _ _ _ h => h), trivial⟩ (fun es => .inl ⟨rfl, (List.Perm.refl _), trivial⟩) ⟨?_, ?_, ?_, ?_, ?_, ?_, ?_, ?_, ?_, trivial⟩ fun R326 le327 => ?_
    · intro l R0q fl O hle ha hd hk hW
      have a1 : l 1 = (.pointer (some ⟨b48, 0, none⟩)) := ha 1 rfl
      rcases hW with ⟨rfl, hp, _⟩ | ⟨rfl, hp, _⟩ | ⟨rfl, hp, _⟩ | ⟨rfl, hp, _⟩ | ⟨rfl, hp, _⟩
      · exact eff_permP hp (ph_val (val_loadBA (i := 5) ag27 sz27 a1 rfl rfl rfl))
      · exact kn_no hk (by kernel_rfl)
      · exact eff_permP hp (ph_val (val_loadBA (i := 5) ag27 sz27 a1 rfl rfl rfl))
      · exact kn_no hk (by kernel_rfl)
      · exact kn_no hk (by kernel_rfl)
    · intro l R1q fl O hle ha hd hk hW
      exact ph_callP en18 rfl (c_gauntletlaw04_edge  c322) (fun _ _ h => h)
    · intro l R2q fl O hle ha hd hk hW
      obtain ⟨d0, d1, d2, _⟩ := hd
      have f159 : l 159 = (.agg #[(.int .i64 2), (.int .i64 2), v43]) := d0 rfl
      have f160 : l 160 = (enc_Edge y321) := d1 rfl
      exact ph_callP en33 (by simp only [List.map, ev, f159, f160] <;> rfl) (c_machines_With (⟨_, ⟨_, _, rfl, rfl, ⟨_, _, rfl, rfl, (rep_one rfl (Sub.v (B := (tSl false (tSl false kEdge))) (sub_sl (sub_sl Sub.refl (fun _ => rfl)) (fun _ => rfl)) ((h74.mono (((((((((((le80.trans le87).trans le179).trans le187).trans le208).trans le216).trans le236).trans le244).trans le252).trans le261).trans le290).trans le297)).mono hle)))⟩⟩, rfl⟩ : VRep (kMach false false) _ _ (⟨2, 2, ([([(⟨y1.to, y1.out⟩ : Edge), (⟨y7.to, y7.out⟩ : Edge)] : List Edge), ([(⟨y18.to, y18.out⟩ : Edge), (⟨y24.to, y24.out⟩ : Edge)] : List Edge)] : List (List Edge))⟩ : Mach)) c324) (fun _ _ h => h)
    · intro l R3q fl O hle ha hd hk hW
      obtain ⟨d0, _⟩ := hd
      have f161 : (fun v R => ∃ u0, v = .tuple #[u0, (.int .i64 y323.2)] ∧ VRep (kMach true true) R u0 y323.1) (l 161) R3q := d0 rfl
      exact Val.phi (val_move rfl) f161
    · intro l R4q fl O hle ha hd hk hf hW
      obtain ⟨d0, _⟩ := hd
      have f158 : (fun v R => ∃ u0, v = .tuple #[u0, (.int .i64 y323.2)] ∧ VRep (kMach true true) R u0 y323.1) (l 158) R4q := d0 rfl
      obtain ⟨u0, ht, hu0⟩ := f158
      rcases hW with ⟨rfl, hp, _⟩ | ⟨rfl, hp, _⟩ | ⟨rfl, hp, _⟩ | ⟨rfl, hp, _⟩ | ⟨rfl, hp, _⟩
      · refine Eff.mono (ph_rep (val_extract ht rfl) hu0) ?_
        rintro v R' O' hle' ⟨rfl, hv⟩
        exact ⟨hv, .inr (.inl ⟨rfl, hp, trivial⟩)⟩
      · cases hf
      · refine Eff.mono (ph_rep (val_extract ht rfl) hu0) ?_
        rintro v R' O' hle' ⟨rfl, hv⟩
        exact ⟨hv, .inr (.inr (.inr (.inl ⟨rfl, hp, trivial⟩)))⟩
      · cases hf
      · cases hf
    · intro l R5q fl O hle ha hd hk hW
      obtain ⟨d0, d1, _⟩ := hd
      have f158 : (fun v R => ∃ u0, v = .tuple #[u0, (.int .i64 y323.2)] ∧ VRep (kMach true true) R u0 y323.1) (l 158) R5q := d0 rfl
      obtain ⟨u0, ht, hu0⟩ := f158
      exact ph_val (val_extract ht rfl)
    · intro l R6q fl O hle ha hd hk hf hW
      rcases hW with ⟨rfl, hp, _⟩ | ⟨rfl, hp, _⟩ | ⟨rfl, hp, _⟩ | ⟨rfl, hp, _⟩ | ⟨rfl, hp, _⟩
      · refine eff_perm hp ?_
        refine Eff.mono (eff_alloc za27) ?_
        rintro v R' O' hle' ⟨rfl, b, rfl, rfl⟩
        exact ⟨rfl, .inr (.inr (.inl ⟨rfl, (pk 1 rfl (pk 1 rfl (pk 1 rfl (pk 1 rfl (pk 1 rfl (pk 1 rfl (pk 1 rfl (pk 1 rfl (pk 0 rfl (List.Perm.refl _)))))))))), trivial⟩))⟩
      · refine eff_perm hp ?_
        refine Eff.mono (eff_alloc za27) ?_
        rintro v R' O' hle' ⟨rfl, b, rfl, rfl⟩
        exact ⟨rfl, .inr (.inr (.inr (.inl ⟨rfl, (pk 1 rfl (pk 1 rfl (pk 1 rfl (pk 1 rfl (pk 1 rfl (pk 1 rfl (pk 1 rfl (pk 1 rfl (pk 0 rfl (List.Perm.refl _)))))))))), trivial⟩)))⟩
      · cases hf
      · cases hf
      · cases hf
    · intro l R7q fl O hle ha hd hk hf hW
      obtain ⟨d0, d1, d2, d3, d4, d5, d6, d7, d8, d9, _⟩ := hd
      have f30 : l 30 = (.pointer (some ⟨(blkOf (l 30)), 0, none⟩)) := d0 rfl
      have f162 : phR (kMach true true) y323.1 (l 162) R7q := d1 rfl
      rcases hW with ⟨rfl, hp, _⟩ | ⟨rfl, hp, _⟩ | ⟨rfl, hp, _⟩ | ⟨rfl, hp, _⟩ | ⟨rfl, hp, _⟩
      · exact kn_no hk (by kernel_rfl)
      · exact kn_no hk (by kernel_rfl)
      · exact kn_no hk (by kernel_rfl)
      · refine eff_perm hp ?_
        obtain ⟨hx1, hy0⟩ := acell_Mach f162
        refine Eff.mono (eff_store (i := 8) (vs := [(.int .i64 y323.1.inputs), (.int .i64 y323.1.outputs), (aggC (l 162) 2)]) sz27 f30 rfl (congrArg Value.cells hx1) rfl rfl (Nat.le_of_ble_eq_true rfl) (one_cons rfl (one_cons rfl (one_cons (sl_one hy0) one_nil)))) ?_
        rintro v R' O' hle' ⟨_, rfl, rfl⟩
        exact ⟨trivial, .inr (.inr (.inr (.inr ⟨rfl, (List.Perm.refl _), trivial⟩)))⟩
      · cases hf
    · intro l R8q fl O hle ha hd hk hW
      obtain ⟨d0, d1, d2, d3, d4, d5, d6, d7, d8, d9, _⟩ := hd
      have f163 : l 163 = (.int .i64 y323.2) := d0 rfl
      exact ph_val (val_assign f163)
    intro v328
    intro v329
    intro v330
    intro v331
    intro v332
    intro v333
    intro v334
    intro v335
    intro h336
    intro h337
    intro h338
    intro h339
    intro h340
    intro h341
    intro h342
    intro h343
    rintro OO344 (⟨e, _⟩ | ⟨e, _⟩ | ⟨e, _⟩ | ⟨e, _⟩ | ⟨_, hp, _⟩)
    · cases e
    · cases e
    · cases e
    · cases e
    refine ⟨[], _, hp, ?_⟩
    obtain ⟨_, h345⟩ := acell_Mach (show VRep (kMach true true) R326 v332 y323.1 from h340)
    obtain ⟨b346, rfl⟩ : ∃ b, v334 = .pointer (some ⟨b, 0, none⟩) := ⟨_, h342⟩
    obtain rfl := Eq.symm h336
    obtain rfl := Eq.symm h337
    obtain ⟨v347, rfl, h348⟩ := h338
    obtain ⟨v349, rfl, h350⟩ := h339
    obtain rfl := Eq.symm h341
    obtain rfl := Eq.symm h343
    refine wo_nil ?_
    refine wg_seq ?_
    replace hd0 := bd_some hd0; obtain ⟨y351, c352, hd0⟩ := hd0
    replace hd0 := bd_some hd0; obtain ⟨y353, c354, hd0⟩ := hd0
    replace hd0 := bd_some hd0; obtain ⟨y355, c356, hd0⟩ := hd0
    refine wg_drawn 63 [] [phX v188, phX (.int .i64 y182.2), phR (tSl true (tInt .i64)) ([1, 0, 0, 1] : List Int), phX (.bool y351), phX (.bool y351), phG (true && (y351 == true)) (phX (.int .i64 y198.1)), phG (true && (y351 == true)) (phX (.bool (decide (y198.1 = 0)))), phX (.bool (y351 && (decide (y198.1 = 0)))), phX (.bool (y351 && (decide (y198.1 = 0)))), phG (true && ((y351 && (decide (y198.1 = 0))) == true)) (phX (.int .i64 y198.2)), phG (true && ((y351 && (decide (y198.1 = 0))) == true)) (phX (.bool (decide (y198.2 = 0)))), phX (.bool ((y351 && (decide (y198.1 = 0))) && (decide (y198.2 = 0)))), phX (.bool ((y351 && (decide (y198.1 = 0))) && (decide (y198.2 = 0)))), phG (true && (((y351 && (decide (y198.1 = 0))) && (decide (y198.2 = 0))) == true)) (phX v217), phG (true && (((y351 && (decide (y198.1 = 0))) && (decide (y198.2 = 0))) == true)) (phX (.int .i64 y211.2)), phG (true && (((y351 && (decide (y198.1 = 0))) && (decide (y198.2 = 0))) == true)) (phR (tSl true (tInt .i64)) ([0, (-1), (-1)] : List Int)), phG (true && (((y351 && (decide (y198.1 = 0))) && (decide (y198.2 = 0))) == true)) (phX (.bool (y353.getD default))), phX (.bool (((y351 && (decide (y198.1 = 0))) && (decide (y198.2 = 0))) && (y353.getD default))), phX (.bool (((y351 && (decide (y198.1 = 0))) && (decide (y198.2 = 0))) && (y353.getD default))), phG (true && ((((y351 && (decide (y198.1 = 0))) && (decide (y198.2 = 0))) && (y353.getD default)) == true)) (phX (.int .i64 y227.1)), phG (true && ((((y351 && (decide (y198.1 = 0))) && (decide (y198.2 = 0))) && (y353.getD default)) == true)) (phX (.bool (decide (y227.1 = (-1))))), phX (.bool ((((y351 && (decide (y198.1 = 0))) && (decide (y198.2 = 0))) && (y353.getD default)) && (decide (y227.1 = (-1))))), phX (.bool ((((y351 && (decide (y198.1 = 0))) && (decide (y198.2 = 0))) && (y353.getD default)) && (decide (y227.1 = (-1))))), phG (true && (((((y351 && (decide (y198.1 = 0))) && (decide (y198.2 = 0))) && (y353.getD default)) && (decide (y227.1 = (-1)))) == true)) (phX (.int .i64 y227.2)), phG (true && (((((y351 && (decide (y198.1 = 0))) && (decide (y198.2 = 0))) && (y353.getD default)) && (decide (y227.1 = (-1)))) == true)) (phX (.bool (decide (y227.2 = 0)))), phX (.bool (((((y351 && (decide (y198.1 = 0))) && (decide (y198.2 = 0))) && (y353.getD default)) && (decide (y227.1 = (-1)))) && (decide (y227.2 = 0)))), phX (.bool (((((y351 && (decide (y198.1 = 0))) && (decide (y198.2 = 0))) && (y353.getD default)) && (decide (y227.1 = (-1)))) && (decide (y227.2 = 0)))), phG (true && ((((((y351 && (decide (y198.1 = 0))) && (decide (y198.2 = 0))) && (y353.getD default)) && (decide (y227.1 = (-1)))) && (decide (y227.2 = 0))) == true)) (phX (.agg #[(.int .i64 y231.1.to), (.int .i64 y231.1.out)])), phG (true && ((((((y351 && (decide (y198.1 = 0))) && (decide (y198.2 = 0))) && (y353.getD default)) && (decide (y227.1 = (-1)))) && (decide (y227.2 = 0))) == true)) (phX (enc_Edge (y355.getD default))), phG (true && ((((((y351 && (decide (y198.1 = 0))) && (decide (y198.2 = 0))) && (y353.getD default)) && (decide (y227.1 = (-1)))) && (decide (y227.2 = 0))) == true)) (phX (.bool (decide (y231.1.to = ((y355.getD default).to) ∧ y231.1.out = ((y355.getD default).out))))), phX (.bool ((((((y351 && (decide (y198.1 = 0))) && (decide (y198.2 = 0))) && (y353.getD default)) && (decide (y227.1 = (-1)))) && (decide (y227.2 = 0))) && (decide (y231.1.to = ((y355.getD default).to) ∧ y231.1.out = ((y355.getD default).out))))), phX (.bool ((((((y351 && (decide (y198.1 = 0))) && (decide (y198.2 = 0))) && (y353.getD default)) && (decide (y227.1 = (-1)))) && (decide (y227.2 = 0))) && (decide (y231.1.to = ((y355.getD default).to) ∧ y231.1.out = ((y355.getD default).out))))), phG (true && (((((((y351 && (decide (y198.1 = 0))) && (decide (y198.2 = 0))) && (y353.getD default)) && (decide (y227.1 = (-1)))) && (decide (y227.2 = 0))) && (decide (y231.1.to = ((y355.getD default).to) ∧ y231.1.out = ((y355.getD default).out)))) == true)) (phX (.int .i64 y231.2)), phG (true && (((((((y351 && (decide (y198.1 = 0))) && (decide (y198.2 = 0))) && (y353.getD default)) && (decide (y227.1 = (-1)))) && (decide (y227.2 = 0))) && (decide (y231.1.to = ((y355.getD default).to) ∧ y231.1.out = ((y355.getD default).out)))) == true)) (phX (.bool (decide (y231.2 = 0)))), phX (.bool (((((((y351 && (decide (y198.1 = 0))) && (decide (y198.2 = 0))) && (y353.getD default)) && (decide (y227.1 = (-1)))) && (decide (y227.2 = 0))) && (decide (y231.1.to = ((y355.getD default).to) ∧ y231.1.out = ((y355.getD default).out)))) && (decide (y231.2 = 0)))), phX (.bool (((((((y351 && (decide (y198.1 = 0))) && (decide (y198.2 = 0))) && (y353.getD default)) && (decide (y227.1 = (-1)))) && (decide (y227.2 = 0))) && (decide (y231.1.to = ((y355.getD default).to) ∧ y231.1.out = ((y355.getD default).out)))) && (decide (y231.2 = 0)))), phG (true && ((((((((y351 && (decide (y198.1 = 0))) && (decide (y198.2 = 0))) && (y353.getD default)) && (decide (y227.1 = (-1)))) && (decide (y227.2 = 0))) && (decide (y231.1.to = ((y355.getD default).to) ∧ y231.1.out = ((y355.getD default).out)))) && (decide (y231.2 = 0))) == true)) (phX (.int .i64 y239.2)), phG (true && ((((((((y351 && (decide (y198.1 = 0))) && (decide (y198.2 = 0))) && (y353.getD default)) && (decide (y227.1 = (-1)))) && (decide (y227.2 = 0))) && (decide (y231.1.to = ((y355.getD default).to) ∧ y231.1.out = ((y355.getD default).out)))) && (decide (y231.2 = 0))) == true)) (phX (.bool (decide (y239.2 = 1)))), phX (.bool ((((((((y351 && (decide (y198.1 = 0))) && (decide (y198.2 = 0))) && (y353.getD default)) && (decide (y227.1 = (-1)))) && (decide (y227.2 = 0))) && (decide (y231.1.to = ((y355.getD default).to) ∧ y231.1.out = ((y355.getD default).out)))) && (decide (y231.2 = 0))) && (decide (y239.2 = 1)))), phX (.bool ((((((((y351 && (decide (y198.1 = 0))) && (decide (y198.2 = 0))) && (y353.getD default)) && (decide (y227.1 = (-1)))) && (decide (y227.2 = 0))) && (decide (y231.1.to = ((y355.getD default).to) ∧ y231.1.out = ((y355.getD default).out)))) && (decide (y231.2 = 0))) && (decide (y239.2 = 1)))), phG (true && (((((((((y351 && (decide (y198.1 = 0))) && (decide (y198.2 = 0))) && (y353.getD default)) && (decide (y227.1 = (-1)))) && (decide (y227.2 = 0))) && (decide (y231.1.to = ((y355.getD default).to) ∧ y231.1.out = ((y355.getD default).out)))) && (decide (y231.2 = 0))) && (decide (y239.2 = 1))) == true)) (phX (.int .i64 y247.2)), phG (true && (((((((((y351 && (decide (y198.1 = 0))) && (decide (y198.2 = 0))) && (y353.getD default)) && (decide (y227.1 = (-1)))) && (decide (y227.2 = 0))) && (decide (y231.1.to = ((y355.getD default).to) ∧ y231.1.out = ((y355.getD default).out)))) && (decide (y231.2 = 0))) && (decide (y239.2 = 1))) == true)) (phX (.bool (decide (y247.2 = 1)))), phX (.bool (((((((((y351 && (decide (y198.1 = 0))) && (decide (y198.2 = 0))) && (y353.getD default)) && (decide (y227.1 = (-1)))) && (decide (y227.2 = 0))) && (decide (y231.1.to = ((y355.getD default).to) ∧ y231.1.out = ((y355.getD default).out)))) && (decide (y231.2 = 0))) && (decide (y239.2 = 1))) && (decide (y247.2 = 1)))), phX (.bool (((((((((y351 && (decide (y198.1 = 0))) && (decide (y198.2 = 0))) && (y353.getD default)) && (decide (y227.1 = (-1)))) && (decide (y227.2 = 0))) && (decide (y231.1.to = ((y355.getD default).to) ∧ y231.1.out = ((y355.getD default).out)))) && (decide (y231.2 = 0))) && (decide (y239.2 = 1))) && (decide (y247.2 = 1)))), phG (true && ((((((((((y351 && (decide (y198.1 = 0))) && (decide (y198.2 = 0))) && (y353.getD default)) && (decide (y227.1 = (-1)))) && (decide (y227.2 = 0))) && (decide (y231.1.to = ((y355.getD default).to) ∧ y231.1.out = ((y355.getD default).out)))) && (decide (y231.2 = 0))) && (decide (y239.2 = 1))) && (decide (y247.2 = 1))) == true)) (phX (.int .i64 y257.2)), phG (true && ((((((((((y351 && (decide (y198.1 = 0))) && (decide (y198.2 = 0))) && (y353.getD default)) && (decide (y227.1 = (-1)))) && (decide (y227.2 = 0))) && (decide (y231.1.to = ((y355.getD default).to) ∧ y231.1.out = ((y355.getD default).out)))) && (decide (y231.2 = 0))) && (decide (y239.2 = 1))) && (decide (y247.2 = 1))) == true)) (phX (.bool (decide (y257.2 = 0)))), phX (.bool ((((((((((y351 && (decide (y198.1 = 0))) && (decide (y198.2 = 0))) && (y353.getD default)) && (decide (y227.1 = (-1)))) && (decide (y227.2 = 0))) && (decide (y231.1.to = ((y355.getD default).to) ∧ y231.1.out = ((y355.getD default).out)))) && (decide (y231.2 = 0))) && (decide (y239.2 = 1))) && (decide (y247.2 = 1))) && (decide (y257.2 = 0)))), phX (.bool ((((((((((y351 && (decide (y198.1 = 0))) && (decide (y198.2 = 0))) && (y353.getD default)) && (decide (y227.1 = (-1)))) && (decide (y227.2 = 0))) && (decide (y231.1.to = ((y355.getD default).to) ∧ y231.1.out = ((y355.getD default).out)))) && (decide (y231.2 = 0))) && (decide (y239.2 = 1))) && (decide (y247.2 = 1))) && (decide (y257.2 = 0)))), phG (true && (((((((((((y351 && (decide (y198.1 = 0))) && (decide (y198.2 = 0))) && (y353.getD default)) && (decide (y227.1 = (-1)))) && (decide (y227.2 = 0))) && (decide (y231.1.to = ((y355.getD default).to) ∧ y231.1.out = ((y355.getD default).out)))) && (decide (y231.2 = 0))) && (decide (y239.2 = 1))) && (decide (y247.2 = 1))) && (decide (y257.2 = 0))) == true)) (phX (.bool y285.1)), phX (.bool (((((((((((y351 && (decide (y198.1 = 0))) && (decide (y198.2 = 0))) && (y353.getD default)) && (decide (y227.1 = (-1)))) && (decide (y227.2 = 0))) && (decide (y231.1.to = ((y355.getD default).to) ∧ y231.1.out = ((y355.getD default).out)))) && (decide (y231.2 = 0))) && (decide (y239.2 = 1))) && (decide (y247.2 = 1))) && (decide (y257.2 = 0))) && y285.1)), phX (.bool (((((((((((y351 && (decide (y198.1 = 0))) && (decide (y198.2 = 0))) && (y353.getD default)) && (decide (y227.1 = (-1)))) && (decide (y227.2 = 0))) && (decide (y231.1.to = ((y355.getD default).to) ∧ y231.1.out = ((y355.getD default).out)))) && (decide (y231.2 = 0))) && (decide (y239.2 = 1))) && (decide (y247.2 = 1))) && (decide (y257.2 = 0))) && y285.1)), phG (true && ((((((((((((y351 && (decide (y198.1 = 0))) && (decide (y198.2 = 0))) && (y353.getD default)) && (decide (y227.1 = (-1)))) && (decide (y227.2 = 0))) && (decide (y231.1.to = ((y355.getD default).to) ∧ y231.1.out = ((y355.getD default).out)))) && (decide (y231.2 = 0))) && (decide (y239.2 = 1))) && (decide (y247.2 = 1))) && (decide (y257.2 = 0))) && y285.1) == true)) (phX (.int .i64 y285.2)), phG (true && ((((((((((((y351 && (decide (y198.1 = 0))) && (decide (y198.2 = 0))) && (y353.getD default)) && (decide (y227.1 = (-1)))) && (decide (y227.2 = 0))) && (decide (y231.1.to = ((y355.getD default).to) ∧ y231.1.out = ((y355.getD default).out)))) && (decide (y231.2 = 0))) && (decide (y239.2 = 1))) && (decide (y247.2 = 1))) && (decide (y257.2 = 0))) && y285.1) == true)) (phX (.bool (decide (y285.2 = 0)))), phX (.bool ((((((((((((y351 && (decide (y198.1 = 0))) && (decide (y198.2 = 0))) && (y353.getD default)) && (decide (y227.1 = (-1)))) && (decide (y227.2 = 0))) && (decide (y231.1.to = ((y355.getD default).to) ∧ y231.1.out = ((y355.getD default).out)))) && (decide (y231.2 = 0))) && (decide (y239.2 = 1))) && (decide (y247.2 = 1))) && (decide (y257.2 = 0))) && y285.1) && (decide (y285.2 = 0)))), phX (.bool ((((((((((((y351 && (decide (y198.1 = 0))) && (decide (y198.2 = 0))) && (y353.getD default)) && (decide (y227.1 = (-1)))) && (decide (y227.2 = 0))) && (decide (y231.1.to = ((y355.getD default).to) ∧ y231.1.out = ((y355.getD default).out)))) && (decide (y231.2 = 0))) && (decide (y239.2 = 1))) && (decide (y247.2 = 1))) && (decide (y257.2 = 0))) && y285.1) && (decide (y285.2 = 0)))), phG (true && (((((((((((((y351 && (decide (y198.1 = 0))) && (decide (y198.2 = 0))) && (y353.getD default)) && (decide (y227.1 = (-1)))) && (decide (y227.2 = 0))) && (decide (y231.1.to = ((y355.getD default).to) ∧ y231.1.out = ((y355.getD default).out)))) && (decide (y231.2 = 0))) && (decide (y239.2 = 1))) && (decide (y247.2 = 1))) && (decide (y257.2 = 0))) && y285.1) && (decide (y285.2 = 0))) == true)) (phX (.int .i64 y293.2)), phG (true && (((((((((((((y351 && (decide (y198.1 = 0))) && (decide (y198.2 = 0))) && (y353.getD default)) && (decide (y227.1 = (-1)))) && (decide (y227.2 = 0))) && (decide (y231.1.to = ((y355.getD default).to) ∧ y231.1.out = ((y355.getD default).out)))) && (decide (y231.2 = 0))) && (decide (y239.2 = 1))) && (decide (y247.2 = 1))) && (decide (y257.2 = 0))) && y285.1) && (decide (y285.2 = 0))) == true)) (phX (.bool (decide (y293.2 = 1)))), phX (.bool (((((((((((((y351 && (decide (y198.1 = 0))) && (decide (y198.2 = 0))) && (y353.getD default)) && (decide (y227.1 = (-1)))) && (decide (y227.2 = 0))) && (decide (y231.1.to = ((y355.getD default).to) ∧ y231.1.out = ((y355.getD default).out)))) && (decide (y231.2 = 0))) && (decide (y239.2 = 1))) && (decide (y247.2 = 1))) && (decide (y257.2 = 0))) && y285.1) && (decide (y285.2 = 0))) && (decide (y293.2 = 1)))), phX (.bool (((((((((((((y351 && (decide (y198.1 = 0))) && (decide (y198.2 = 0))) && (y353.getD default)) && (decide (y227.1 = (-1)))) && (decide (y227.2 = 0))) && (decide (y231.1.to = ((y355.getD default).to) ∧ y231.1.out = ((y355.getD default).out)))) && (decide (y231.2 = 0))) && (decide (y239.2 = 1))) && (decide (y247.2 = 1))) && (decide (y257.2 = 0))) && y285.1) && (decide (y285.2 = 0))) && (decide (y293.2 = 1)))), phG (true && ((((((((((((((y351 && (decide (y198.1 = 0))) && (decide (y198.2 = 0))) && (y353.getD default)) && (decide (y227.1 = (-1)))) && (decide (y227.2 = 0))) && (decide (y231.1.to = ((y355.getD default).to) ∧ y231.1.out = ((y355.getD default).out)))) && (decide (y231.2 = 0))) && (decide (y239.2 = 1))) && (decide (y247.2 = 1))) && (decide (y257.2 = 0))) && y285.1) && (decide (y285.2 = 0))) && (decide (y293.2 = 1))) == true)) (phX (.int .i64 y323.2)), phG (true && ((((((((((((((y351 && (decide (y198.1 = 0))) && (decide (y198.2 = 0))) && (y353.getD default)) && (decide (y227.1 = (-1)))) && (decide (y227.2 = 0))) && (decide (y231.1.to = ((y355.getD default).to) ∧ y231.1.out = ((y355.getD default).out)))) && (decide (y231.2 = 0))) && (decide (y239.2 = 1))) && (decide (y247.2 = 1))) && (decide (y257.2 = 0))) && y285.1) && (decide (y285.2 = 0))) && (decide (y293.2 = 1))) == true)) (phX (.bool (decide (y323.2 = 1)))), phX (.bool ((((((((((((((y351 && (decide (y198.1 = 0))) && (decide (y198.2 = 0))) && (y353.getD default)) && (decide (y227.1 = (-1)))) && (decide (y227.2 = 0))) && (decide (y231.1.to = ((y355.getD default).to) ∧ y231.1.out = ((y355.getD default).out)))) && (decide (y231.2 = 0))) && (decide (y239.2 = 1))) && (decide (y247.2 = 1))) && (decide (y257.2 = 0))) && y285.1) && (decide (y285.2 = 0))) && (decide (y293.2 = 1))) && (decide (y323.2 = 1)))), phX (.bool ((((((((((((((y351 && (decide (y198.1 = 0))) && (decide (y198.2 = 0))) && (y353.getD default)) && (decide (y227.1 = (-1)))) && (decide (y227.2 = 0))) && (decide (y231.1.to = ((y355.getD default).to) ∧ y231.1.out = ((y355.getD default).out)))) && (decide (y231.2 = 0))) && (decide (y239.2 = 1))) && (decide (y247.2 = 1))) && (decide (y257.2 = 0))) && y285.1) && (decide (y285.2 = 0))) && (decide (y293.2 = 1))) && (decide (y323.2 = 1))))] mixed (by kernel_rfl) (monoOk_of ⟨mono_x, mono_x, mono_r, mono_x, mono_x, (mono_g mono_x), (mono_g mono_x), mono_x, mono_x, (mono_g mono_x), (mono_g mono_x), mono_x, mono_x, (mono_g mono_x), (mono_g mono_x), (mono_g mono_r), (mono_g mono_x), mono_x, mono_x, (mono_g mono_x), (mono_g mono_x), mono_x, mono_x, (mono_g mono_x), (mono_g mono_x), mono_x, mono_x, (mono_g mono_x), (mono_g mono_x), (mono_g mono_x), mono_x, mono_x, (mono_g mono_x), (mono_g mono_x), mono_x, mono_x, (mono_g mono_x), (mono_g mono_x), mono_x, mono_x, (mono_g mono_x), (mono_g mono_x), mono_x, mono_x, (mono_g mono_x), (mono_g mono_x), mono_x, mono_x, (mono_g mono_x), mono_x, mono_x, (mono_g mono_x), (mono_g mono_x), mono_x, mono_x, (mono_g mono_x), (mono_g mono_x), mono_x, mono_x, (mono_g mono_x), (mono_g mono_x), mono_x, mono_x, trivial⟩) ⟨?_, ?_, ?_, ?_, ?_, ?_, ?_, ?_, ?_, ?_, ?_, ?_, ?_, ?_, ?_, ?_, ?_, ?_, ?_, ?_, ?_, ?_, ?_, ?_, ?_, ?_, ?_, ?_, ?_, ?_, ?_, ?_, ?_, ?_, ?_, ?_, ?_, ?_, ?_, ?_, ?_, ?_, ?_, ?_, ?_, ?_, ?_, ?_, ?_, ?_, ?_, ?_, ?_, ?_, ?_, ?_, ?_, ?_, ?_, ?_, ?_, ?_, ?_, trivial⟩ fun R357 le358 => ?_
    · intro l R0q hle ha hd
      have a10 : l 10 = v188 := ha 10 rfl
      exact gstep_plain rfl rfl rfl (ph_val (val_move a10))
    · intro l R1q hle ha hd
      have a11 : l 11 = (.int .i64 y182.2) := ha 11 rfl
      exact gstep_plain rfl rfl rfl (ph_val (val_move a11))
    · intro l R2q hle ha hd
      exact gstep_plain rfl rfl rfl (ph_litT (T := (tInt .i64)) (X := ([1, 0, 0, 1] : List Int)) (ps := [(0, (.int .i64 1)), (1, (.int .i64 0)), (2, (.int .i64 0)), (3, (.int .i64 1))]) (css := [[(.int .i64 1)], [(.int .i64 0)], [(.int .i64 0)], [(.int .i64 1)]]) Try.underlying49 zo3 rfl rfl (lit_reps ⟨rfl, rfl, rfl, rfl, trivial⟩) rfl rfl (by decide))
    · intro l R3q hle ha hd
      obtain ⟨d0, d1, d2, _⟩ := hd
      have f164 : l 164 = v188 := d0 rfl
      have f165 : l 165 = (.int .i64 y182.2) := d1 rfl
      have f166 : phR (tSl true (tInt .i64)) ([1, 0, 0, 1] : List Int) (l 166) R3q := d2 rfl
      exact gstep_plain rfl rfl rfl (ph_callP en23 (by simp only [List.map, ev, f164, f165] <;> rfl) (c_gauntletlaw04_list ((h189.mono ((((((((le208.trans le216).trans le236).trans le244).trans le252).trans le261).trans le290).trans le297).trans le327)).mono hle) (Sub.v (B := (tSl false (tInt .i64))) (sub_sl Sub.refl (fun _ => rfl)) f166) c352) (fun _ _ h => h))
    · intro l R4q hle ha hd
      obtain ⟨d0, d1, _⟩ := hd
      have f167 : l 167 = (.bool y351) := d0 rfl
      exact gstep_plain rfl rfl rfl (ph_val (val_move f167))
    · intro l R5q hle ha hd
      obtain ⟨d0, _⟩ := hd
      have a12 : l 12 = (.int .i64 y198.1) := ha 12 rfl
      exact gstep_guard (Gj := true) (Bj := y351) rfl rfl rfl (gtrue (d0 rfl)) rfl (fun hG hB => ph_val (val_move a12))
    · intro l R6q hle ha hd
      obtain ⟨d0, d1, _⟩ := hd
      have f169g : phG (true && (y351 == true)) (phX (.int .i64 y198.1)) (l 169) R6q := d0 rfl
      exact gstep_guard (Gj := true) (Bj := y351) rfl rfl rfl (gtrue (d1 rfl)) rfl (fun hG hB => ph_val (val_eql (show l 169 = (.int .i64 y198.1) from f169g.1 (gandT rfl hB)) rfl))
    · intro l R7q hle ha hd
      obtain ⟨d0, d1, _⟩ := hd
      have f168 : l 168 = (.bool y351) := d0 rfl
      have f170g : phG (true && (y351 == true)) (phX (.bool (decide (y198.1 = 0)))) (l 170) R7q := d1 rfl
      exact gstep_plain rfl rfl rfl (ph_val (val_and f168 (fun hb => (show l 170 = (.bool (decide (y198.1 = 0))) from f170g.1 (gandT rfl hb))) rfl))
    · intro l R8q hle ha hd
      obtain ⟨d0, d1, _⟩ := hd
      have f171 : l 171 = (.bool (y351 && (decide (y198.1 = 0)))) := d0 rfl
      exact gstep_plain rfl rfl rfl (ph_val (val_move f171))
    · intro l R9q hle ha hd
      obtain ⟨d0, _⟩ := hd
      have a13 : l 13 = (.int .i64 y198.2) := ha 13 rfl
      exact gstep_guard (Gj := true) (Bj := y351 && (decide (y198.1 = 0))) rfl rfl rfl (gtrue (d0 rfl)) rfl (fun hG hB => ph_val (val_move a13))
    · intro l R10q hle ha hd
      obtain ⟨d0, d1, _⟩ := hd
      have f173g : phG (true && ((y351 && (decide (y198.1 = 0))) == true)) (phX (.int .i64 y198.2)) (l 173) R10q := d0 rfl
      exact gstep_guard (Gj := true) (Bj := y351 && (decide (y198.1 = 0))) rfl rfl rfl (gtrue (d1 rfl)) rfl (fun hG hB => ph_val (val_eql (show l 173 = (.int .i64 y198.2) from f173g.1 (gandT rfl hB)) rfl))
    · intro l R11q hle ha hd
      obtain ⟨d0, d1, _⟩ := hd
      have f172 : l 172 = (.bool (y351 && (decide (y198.1 = 0)))) := d0 rfl
      have f174g : phG (true && ((y351 && (decide (y198.1 = 0))) == true)) (phX (.bool (decide (y198.2 = 0)))) (l 174) R11q := d1 rfl
      exact gstep_plain rfl rfl rfl (ph_val (val_and f172 (fun hb => (show l 174 = (.bool (decide (y198.2 = 0))) from f174g.1 (gandT rfl hb))) rfl))
    · intro l R12q hle ha hd
      obtain ⟨d0, d1, _⟩ := hd
      have f175 : l 175 = (.bool ((y351 && (decide (y198.1 = 0))) && (decide (y198.2 = 0)))) := d0 rfl
      exact gstep_plain rfl rfl rfl (ph_val (val_move f175))
    · intro l R13q hle ha hd
      obtain ⟨d0, _⟩ := hd
      have a14 : l 14 = v217 := ha 14 rfl
      exact gstep_guard (Gj := true) (Bj := (y351 && (decide (y198.1 = 0))) && (decide (y198.2 = 0))) rfl rfl rfl (gtrue (d0 rfl)) rfl (fun hG hB => ph_val (val_move a14))
    · intro l R14q hle ha hd
      obtain ⟨d0, _⟩ := hd
      have a15 : l 15 = (.int .i64 y211.2) := ha 15 rfl
      exact gstep_guard (Gj := true) (Bj := (y351 && (decide (y198.1 = 0))) && (decide (y198.2 = 0))) rfl rfl rfl (gtrue (d0 rfl)) rfl (fun hG hB => ph_val (val_move a15))
    · intro l R15q hle ha hd
      obtain ⟨d0, _⟩ := hd
      exact gstep_guard (Gj := true) (Bj := (y351 && (decide (y198.1 = 0))) && (decide (y198.2 = 0))) rfl rfl rfl (gtrue (d0 rfl)) rfl (fun hG hB => ph_litT (T := (tInt .i64)) (X := ([0, (-1), (-1)] : List Int)) (ps := [(0, (.int .i64 0)), (1, (.int .i64 (-1))), (2, (.int .i64 (-1)))]) (css := [[(.int .i64 0)], [(.int .i64 (-1))], [(.int .i64 (-1))]]) Try.underlying49 zo3 rfl rfl (lit_reps ⟨rfl, rfl, rfl, trivial⟩) rfl rfl (by decide))
    · intro l R16q hle ha hd
      obtain ⟨d0, d1, d2, d3, d4, _⟩ := hd
      have f177g : phG (true && (((y351 && (decide (y198.1 = 0))) && (decide (y198.2 = 0))) == true)) (phX v217) (l 177) R16q := d0 rfl
      have f178g : phG (true && (((y351 && (decide (y198.1 = 0))) && (decide (y198.2 = 0))) == true)) (phX (.int .i64 y211.2)) (l 178) R16q := d1 rfl
      have f179g : phG (true && (((y351 && (decide (y198.1 = 0))) && (decide (y198.2 = 0))) == true)) (phR (tSl true (tInt .i64)) ([0, (-1), (-1)] : List Int)) (l 179) R16q := d2 rfl
      exact gstep_guard (Gj := true) (Bj := (y351 && (decide (y198.1 = 0))) && (decide (y198.2 = 0))) rfl rfl rfl (gtrue (d3 rfl)) rfl (fun hG hB => ph_callP en23 (by simp only [List.map, ev, (show l 177 = v217 from f177g.1 (gandT rfl hB)), (show l 178 = (.int .i64 y211.2) from f178g.1 (gandT rfl hB))] <;> rfl) (c_gauntletlaw04_list ((h218.mono ((((((le236.trans le244).trans le252).trans le261).trans le290).trans le297).trans le327)).mono hle) (Sub.v (B := (tSl false (tInt .i64))) (sub_sl Sub.refl (fun _ => rfl)) (f179g.1 (gandT rfl hB))) (gop_def c354 (gandT hG hB))) (fun _ _ h => h))
    · intro l R17q hle ha hd
      obtain ⟨d0, d1, _⟩ := hd
      have f176 : l 176 = (.bool ((y351 && (decide (y198.1 = 0))) && (decide (y198.2 = 0)))) := d0 rfl
      have f180g : phG (true && (((y351 && (decide (y198.1 = 0))) && (decide (y198.2 = 0))) == true)) (phX (.bool (y353.getD default))) (l 180) R17q := d1 rfl
      exact gstep_plain rfl rfl rfl (ph_val (val_and f176 (fun hb => (show l 180 = (.bool (y353.getD default)) from f180g.1 (gandT rfl hb))) rfl))
    · intro l R18q hle ha hd
      obtain ⟨d0, d1, _⟩ := hd
      have f181 : l 181 = (.bool (((y351 && (decide (y198.1 = 0))) && (decide (y198.2 = 0))) && (y353.getD default))) := d0 rfl
      exact gstep_plain rfl rfl rfl (ph_val (val_move f181))
    · intro l R19q hle ha hd
      obtain ⟨d0, _⟩ := hd
      have a16 : l 16 = (.int .i64 y227.1) := ha 16 rfl
      exact gstep_guard (Gj := true) (Bj := ((y351 && (decide (y198.1 = 0))) && (decide (y198.2 = 0))) && (y353.getD default)) rfl rfl rfl (gtrue (d0 rfl)) rfl (fun hG hB => ph_val (val_move a16))
    · intro l R20q hle ha hd
      obtain ⟨d0, d1, _⟩ := hd
      have f183g : phG (true && ((((y351 && (decide (y198.1 = 0))) && (decide (y198.2 = 0))) && (y353.getD default)) == true)) (phX (.int .i64 y227.1)) (l 183) R20q := d0 rfl
      exact gstep_guard (Gj := true) (Bj := ((y351 && (decide (y198.1 = 0))) && (decide (y198.2 = 0))) && (y353.getD default)) rfl rfl rfl (gtrue (d1 rfl)) rfl (fun hG hB => ph_val (val_eql (show l 183 = (.int .i64 y227.1) from f183g.1 (gandT rfl hB)) rfl))
    · intro l R21q hle ha hd
      obtain ⟨d0, d1, _⟩ := hd
      have f182 : l 182 = (.bool (((y351 && (decide (y198.1 = 0))) && (decide (y198.2 = 0))) && (y353.getD default))) := d0 rfl
      have f184g : phG (true && ((((y351 && (decide (y198.1 = 0))) && (decide (y198.2 = 0))) && (y353.getD default)) == true)) (phX (.bool (decide (y227.1 = (-1))))) (l 184) R21q := d1 rfl
      exact gstep_plain rfl rfl rfl (ph_val (val_and f182 (fun hb => (show l 184 = (.bool (decide (y227.1 = (-1)))) from f184g.1 (gandT rfl hb))) rfl))
    · intro l R22q hle ha hd
      obtain ⟨d0, d1, _⟩ := hd
      have f185 : l 185 = (.bool ((((y351 && (decide (y198.1 = 0))) && (decide (y198.2 = 0))) && (y353.getD default)) && (decide (y227.1 = (-1))))) := d0 rfl
      exact gstep_plain rfl rfl rfl (ph_val (val_move f185))
    · intro l R23q hle ha hd
      obtain ⟨d0, _⟩ := hd
      have a17 : l 17 = (.int .i64 y227.2) := ha 17 rfl
      exact gstep_guard (Gj := true) (Bj := (((y351 && (decide (y198.1 = 0))) && (decide (y198.2 = 0))) && (y353.getD default)) && (decide (y227.1 = (-1)))) rfl rfl rfl (gtrue (d0 rfl)) rfl (fun hG hB => ph_val (val_move a17))
    · intro l R24q hle ha hd
      obtain ⟨d0, d1, _⟩ := hd
      have f187g : phG (true && (((((y351 && (decide (y198.1 = 0))) && (decide (y198.2 = 0))) && (y353.getD default)) && (decide (y227.1 = (-1)))) == true)) (phX (.int .i64 y227.2)) (l 187) R24q := d0 rfl
      exact gstep_guard (Gj := true) (Bj := (((y351 && (decide (y198.1 = 0))) && (decide (y198.2 = 0))) && (y353.getD default)) && (decide (y227.1 = (-1)))) rfl rfl rfl (gtrue (d1 rfl)) rfl (fun hG hB => ph_val (val_eql (show l 187 = (.int .i64 y227.2) from f187g.1 (gandT rfl hB)) rfl))
    · intro l R25q hle ha hd
      obtain ⟨d0, d1, _⟩ := hd
      have f186 : l 186 = (.bool ((((y351 && (decide (y198.1 = 0))) && (decide (y198.2 = 0))) && (y353.getD default)) && (decide (y227.1 = (-1))))) := d0 rfl
      have f188g : phG (true && (((((y351 && (decide (y198.1 = 0))) && (decide (y198.2 = 0))) && (y353.getD default)) && (decide (y227.1 = (-1)))) == true)) (phX (.bool (decide (y227.2 = 0)))) (l 188) R25q := d1 rfl
      exact gstep_plain rfl rfl rfl (ph_val (val_and f186 (fun hb => (show l 188 = (.bool (decide (y227.2 = 0))) from f188g.1 (gandT rfl hb))) rfl))
    · intro l R26q hle ha hd
      obtain ⟨d0, d1, _⟩ := hd
      have f189 : l 189 = (.bool (((((y351 && (decide (y198.1 = 0))) && (decide (y198.2 = 0))) && (y353.getD default)) && (decide (y227.1 = (-1)))) && (decide (y227.2 = 0)))) := d0 rfl
      exact gstep_plain rfl rfl rfl (ph_val (val_move f189))
    · intro l R27q hle ha hd
      obtain ⟨d0, _⟩ := hd
      have a18 : l 18 = (.pointer (some ⟨b237, 0, none⟩)) := ha 18 rfl
      exact gstep_guard (Gj := true) (Bj := ((((y351 && (decide (y198.1 = 0))) && (decide (y198.2 = 0))) && (y353.getD default)) && (decide (y227.1 = (-1)))) && (decide (y227.2 = 0))) rfl rfl rfl (gtrue (d0 rfl)) rfl (fun hG hB => ph_val (val_loadBA (i := 2) ag40 sz40 a18 rfl rfl rfl))
    · intro l R28q hle ha hd
      obtain ⟨d0, d1, _⟩ := hd
      exact gstep_guard (Gj := true) (Bj := ((((y351 && (decide (y198.1 = 0))) && (decide (y198.2 = 0))) && (y353.getD default)) && (decide (y227.1 = (-1)))) && (decide (y227.2 = 0))) rfl rfl rfl (gtrue (d0 rfl)) rfl (fun hG hB => ph_callP en18 rfl (c_gauntletlaw04_edge  (gop_def c356 (gandT hG hB))) (fun _ _ h => h))
    · intro l R29q hle ha hd
      obtain ⟨d0, d1, d2, _⟩ := hd
      have f191g : phG (true && ((((((y351 && (decide (y198.1 = 0))) && (decide (y198.2 = 0))) && (y353.getD default)) && (decide (y227.1 = (-1)))) && (decide (y227.2 = 0))) == true)) (phX (.agg #[(.int .i64 y231.1.to), (.int .i64 y231.1.out)])) (l 191) R29q := d0 rfl
      have f192g : phG (true && ((((((y351 && (decide (y198.1 = 0))) && (decide (y198.2 = 0))) && (y353.getD default)) && (decide (y227.1 = (-1)))) && (decide (y227.2 = 0))) == true)) (phX (enc_Edge (y355.getD default))) (l 192) R29q := d1 rfl
      exact gstep_guard (Gj := true) (Bj := ((((y351 && (decide (y198.1 = 0))) && (decide (y198.2 = 0))) && (y353.getD default)) && (decide (y227.1 = (-1)))) && (decide (y227.2 = 0))) rfl rfl rfl (gtrue (d2 rfl)) rfl (fun hG hB => ph_val (val_eql2 eq40 (show l 191 = (.agg #[(.int .i64 y231.1.to), (.int .i64 y231.1.out)]) from f191g.1 (gandT rfl hB)) (show l 192 = (enc_Edge (y355.getD default)) from f192g.1 (gandT rfl hB))))
    · intro l R30q hle ha hd
      obtain ⟨d0, d1, _⟩ := hd
      have f190 : l 190 = (.bool (((((y351 && (decide (y198.1 = 0))) && (decide (y198.2 = 0))) && (y353.getD default)) && (decide (y227.1 = (-1)))) && (decide (y227.2 = 0)))) := d0 rfl
      have f193g : phG (true && ((((((y351 && (decide (y198.1 = 0))) && (decide (y198.2 = 0))) && (y353.getD default)) && (decide (y227.1 = (-1)))) && (decide (y227.2 = 0))) == true)) (phX (.bool (decide (y231.1.to = ((y355.getD default).to) ∧ y231.1.out = ((y355.getD default).out))))) (l 193) R30q := d1 rfl
      exact gstep_plain rfl rfl rfl (ph_val (val_and f190 (fun hb => (show l 193 = (.bool (decide (y231.1.to = ((y355.getD default).to) ∧ y231.1.out = ((y355.getD default).out)))) from f193g.1 (gandT rfl hb))) rfl))
    · intro l R31q hle ha hd
      obtain ⟨d0, d1, _⟩ := hd
      have f194 : l 194 = (.bool ((((((y351 && (decide (y198.1 = 0))) && (decide (y198.2 = 0))) && (y353.getD default)) && (decide (y227.1 = (-1)))) && (decide (y227.2 = 0))) && (decide (y231.1.to = ((y355.getD default).to) ∧ y231.1.out = ((y355.getD default).out))))) := d0 rfl
      exact gstep_plain rfl rfl rfl (ph_val (val_move f194))
    · intro l R32q hle ha hd
      obtain ⟨d0, _⟩ := hd
      have a19 : l 19 = (.int .i64 y231.2) := ha 19 rfl
      exact gstep_guard (Gj := true) (Bj := (((((y351 && (decide (y198.1 = 0))) && (decide (y198.2 = 0))) && (y353.getD default)) && (decide (y227.1 = (-1)))) && (decide (y227.2 = 0))) && (decide (y231.1.to = ((y355.getD default).to) ∧ y231.1.out = ((y355.getD default).out)))) rfl rfl rfl (gtrue (d0 rfl)) rfl (fun hG hB => ph_val (val_move a19))
    · intro l R33q hle ha hd
      obtain ⟨d0, d1, _⟩ := hd
      have f196g : phG (true && (((((((y351 && (decide (y198.1 = 0))) && (decide (y198.2 = 0))) && (y353.getD default)) && (decide (y227.1 = (-1)))) && (decide (y227.2 = 0))) && (decide (y231.1.to = ((y355.getD default).to) ∧ y231.1.out = ((y355.getD default).out)))) == true)) (phX (.int .i64 y231.2)) (l 196) R33q := d0 rfl
      exact gstep_guard (Gj := true) (Bj := (((((y351 && (decide (y198.1 = 0))) && (decide (y198.2 = 0))) && (y353.getD default)) && (decide (y227.1 = (-1)))) && (decide (y227.2 = 0))) && (decide (y231.1.to = ((y355.getD default).to) ∧ y231.1.out = ((y355.getD default).out)))) rfl rfl rfl (gtrue (d1 rfl)) rfl (fun hG hB => ph_val (val_eql (show l 196 = (.int .i64 y231.2) from f196g.1 (gandT rfl hB)) rfl))
    · intro l R34q hle ha hd
      obtain ⟨d0, d1, _⟩ := hd
      have f195 : l 195 = (.bool ((((((y351 && (decide (y198.1 = 0))) && (decide (y198.2 = 0))) && (y353.getD default)) && (decide (y227.1 = (-1)))) && (decide (y227.2 = 0))) && (decide (y231.1.to = ((y355.getD default).to) ∧ y231.1.out = ((y355.getD default).out))))) := d0 rfl
      have f197g : phG (true && (((((((y351 && (decide (y198.1 = 0))) && (decide (y198.2 = 0))) && (y353.getD default)) && (decide (y227.1 = (-1)))) && (decide (y227.2 = 0))) && (decide (y231.1.to = ((y355.getD default).to) ∧ y231.1.out = ((y355.getD default).out)))) == true)) (phX (.bool (decide (y231.2 = 0)))) (l 197) R34q := d1 rfl
      exact gstep_plain rfl rfl rfl (ph_val (val_and f195 (fun hb => (show l 197 = (.bool (decide (y231.2 = 0))) from f197g.1 (gandT rfl hb))) rfl))
    · intro l R35q hle ha hd
      obtain ⟨d0, d1, _⟩ := hd
      have f198 : l 198 = (.bool (((((((y351 && (decide (y198.1 = 0))) && (decide (y198.2 = 0))) && (y353.getD default)) && (decide (y227.1 = (-1)))) && (decide (y227.2 = 0))) && (decide (y231.1.to = ((y355.getD default).to) ∧ y231.1.out = ((y355.getD default).out)))) && (decide (y231.2 = 0)))) := d0 rfl
      exact gstep_plain rfl rfl rfl (ph_val (val_move f198))
    · intro l R36q hle ha hd
      obtain ⟨d0, _⟩ := hd
      have a21 : l 21 = (.int .i64 y239.2) := ha 21 rfl
      exact gstep_guard (Gj := true) (Bj := ((((((y351 && (decide (y198.1 = 0))) && (decide (y198.2 = 0))) && (y353.getD default)) && (decide (y227.1 = (-1)))) && (decide (y227.2 = 0))) && (decide (y231.1.to = ((y355.getD default).to) ∧ y231.1.out = ((y355.getD default).out)))) && (decide (y231.2 = 0))) rfl rfl rfl (gtrue (d0 rfl)) rfl (fun hG hB => ph_val (val_move a21))
    · intro l R37q hle ha hd
      obtain ⟨d0, d1, _⟩ := hd
      have f200g : phG (true && ((((((((y351 && (decide (y198.1 = 0))) && (decide (y198.2 = 0))) && (y353.getD default)) && (decide (y227.1 = (-1)))) && (decide (y227.2 = 0))) && (decide (y231.1.to = ((y355.getD default).to) ∧ y231.1.out = ((y355.getD default).out)))) && (decide (y231.2 = 0))) == true)) (phX (.int .i64 y239.2)) (l 200) R37q := d0 rfl
      exact gstep_guard (Gj := true) (Bj := ((((((y351 && (decide (y198.1 = 0))) && (decide (y198.2 = 0))) && (y353.getD default)) && (decide (y227.1 = (-1)))) && (decide (y227.2 = 0))) && (decide (y231.1.to = ((y355.getD default).to) ∧ y231.1.out = ((y355.getD default).out)))) && (decide (y231.2 = 0))) rfl rfl rfl (gtrue (d1 rfl)) rfl (fun hG hB => ph_val (val_eql (show l 200 = (.int .i64 y239.2) from f200g.1 (gandT rfl hB)) rfl))
    · intro l R38q hle ha hd
      obtain ⟨d0, d1, _⟩ := hd
      have f199 : l 199 = (.bool (((((((y351 && (decide (y198.1 = 0))) && (decide (y198.2 = 0))) && (y353.getD default)) && (decide (y227.1 = (-1)))) && (decide (y227.2 = 0))) && (decide (y231.1.to = ((y355.getD default).to) ∧ y231.1.out = ((y355.getD default).out)))) && (decide (y231.2 = 0)))) := d0 rfl
      have f201g : phG (true && ((((((((y351 && (decide (y198.1 = 0))) && (decide (y198.2 = 0))) && (y353.getD default)) && (decide (y227.1 = (-1)))) && (decide (y227.2 = 0))) && (decide (y231.1.to = ((y355.getD default).to) ∧ y231.1.out = ((y355.getD default).out)))) && (decide (y231.2 = 0))) == true)) (phX (.bool (decide (y239.2 = 1)))) (l 201) R38q := d1 rfl
      exact gstep_plain rfl rfl rfl (ph_val (val_and f199 (fun hb => (show l 201 = (.bool (decide (y239.2 = 1))) from f201g.1 (gandT rfl hb))) rfl))
    · intro l R39q hle ha hd
      obtain ⟨d0, d1, _⟩ := hd
      have f202 : l 202 = (.bool ((((((((y351 && (decide (y198.1 = 0))) && (decide (y198.2 = 0))) && (y353.getD default)) && (decide (y227.1 = (-1)))) && (decide (y227.2 = 0))) && (decide (y231.1.to = ((y355.getD default).to) ∧ y231.1.out = ((y355.getD default).out)))) && (decide (y231.2 = 0))) && (decide (y239.2 = 1)))) := d0 rfl
      exact gstep_plain rfl rfl rfl (ph_val (val_move f202))
    · intro l R40q hle ha hd
      obtain ⟨d0, _⟩ := hd
      have a23 : l 23 = (.int .i64 y247.2) := ha 23 rfl
      exact gstep_guard (Gj := true) (Bj := (((((((y351 && (decide (y198.1 = 0))) && (decide (y198.2 = 0))) && (y353.getD default)) && (decide (y227.1 = (-1)))) && (decide (y227.2 = 0))) && (decide (y231.1.to = ((y355.getD default).to) ∧ y231.1.out = ((y355.getD default).out)))) && (decide (y231.2 = 0))) && (decide (y239.2 = 1))) rfl rfl rfl (gtrue (d0 rfl)) rfl (fun hG hB => ph_val (val_move a23))
    · intro l R41q hle ha hd
      obtain ⟨d0, d1, _⟩ := hd
      have f204g : phG (true && (((((((((y351 && (decide (y198.1 = 0))) && (decide (y198.2 = 0))) && (y353.getD default)) && (decide (y227.1 = (-1)))) && (decide (y227.2 = 0))) && (decide (y231.1.to = ((y355.getD default).to) ∧ y231.1.out = ((y355.getD default).out)))) && (decide (y231.2 = 0))) && (decide (y239.2 = 1))) == true)) (phX (.int .i64 y247.2)) (l 204) R41q := d0 rfl
      exact gstep_guard (Gj := true) (Bj := (((((((y351 && (decide (y198.1 = 0))) && (decide (y198.2 = 0))) && (y353.getD default)) && (decide (y227.1 = (-1)))) && (decide (y227.2 = 0))) && (decide (y231.1.to = ((y355.getD default).to) ∧ y231.1.out = ((y355.getD default).out)))) && (decide (y231.2 = 0))) && (decide (y239.2 = 1))) rfl rfl rfl (gtrue (d1 rfl)) rfl (fun hG hB => ph_val (val_eql (show l 204 = (.int .i64 y247.2) from f204g.1 (gandT rfl hB)) rfl))
    · intro l R42q hle ha hd
      obtain ⟨d0, d1, _⟩ := hd
      have f203 : l 203 = (.bool ((((((((y351 && (decide (y198.1 = 0))) && (decide (y198.2 = 0))) && (y353.getD default)) && (decide (y227.1 = (-1)))) && (decide (y227.2 = 0))) && (decide (y231.1.to = ((y355.getD default).to) ∧ y231.1.out = ((y355.getD default).out)))) && (decide (y231.2 = 0))) && (decide (y239.2 = 1)))) := d0 rfl
      have f205g : phG (true && (((((((((y351 && (decide (y198.1 = 0))) && (decide (y198.2 = 0))) && (y353.getD default)) && (decide (y227.1 = (-1)))) && (decide (y227.2 = 0))) && (decide (y231.1.to = ((y355.getD default).to) ∧ y231.1.out = ((y355.getD default).out)))) && (decide (y231.2 = 0))) && (decide (y239.2 = 1))) == true)) (phX (.bool (decide (y247.2 = 1)))) (l 205) R42q := d1 rfl
      exact gstep_plain rfl rfl rfl (ph_val (val_and f203 (fun hb => (show l 205 = (.bool (decide (y247.2 = 1))) from f205g.1 (gandT rfl hb))) rfl))
    · intro l R43q hle ha hd
      obtain ⟨d0, d1, _⟩ := hd
      have f206 : l 206 = (.bool (((((((((y351 && (decide (y198.1 = 0))) && (decide (y198.2 = 0))) && (y353.getD default)) && (decide (y227.1 = (-1)))) && (decide (y227.2 = 0))) && (decide (y231.1.to = ((y355.getD default).to) ∧ y231.1.out = ((y355.getD default).out)))) && (decide (y231.2 = 0))) && (decide (y239.2 = 1))) && (decide (y247.2 = 1)))) := d0 rfl
      exact gstep_plain rfl rfl rfl (ph_val (val_move f206))
    · intro l R44q hle ha hd
      obtain ⟨d0, _⟩ := hd
      have a25 : l 25 = (.int .i64 y257.2) := ha 25 rfl
      exact gstep_guard (Gj := true) (Bj := ((((((((y351 && (decide (y198.1 = 0))) && (decide (y198.2 = 0))) && (y353.getD default)) && (decide (y227.1 = (-1)))) && (decide (y227.2 = 0))) && (decide (y231.1.to = ((y355.getD default).to) ∧ y231.1.out = ((y355.getD default).out)))) && (decide (y231.2 = 0))) && (decide (y239.2 = 1))) && (decide (y247.2 = 1))) rfl rfl rfl (gtrue (d0 rfl)) rfl (fun hG hB => ph_val (val_move a25))
    · intro l R45q hle ha hd
      obtain ⟨d0, d1, _⟩ := hd
      have f208g : phG (true && ((((((((((y351 && (decide (y198.1 = 0))) && (decide (y198.2 = 0))) && (y353.getD default)) && (decide (y227.1 = (-1)))) && (decide (y227.2 = 0))) && (decide (y231.1.to = ((y355.getD default).to) ∧ y231.1.out = ((y355.getD default).out)))) && (decide (y231.2 = 0))) && (decide (y239.2 = 1))) && (decide (y247.2 = 1))) == true)) (phX (.int .i64 y257.2)) (l 208) R45q := d0 rfl
      exact gstep_guard (Gj := true) (Bj := ((((((((y351 && (decide (y198.1 = 0))) && (decide (y198.2 = 0))) && (y353.getD default)) && (decide (y227.1 = (-1)))) && (decide (y227.2 = 0))) && (decide (y231.1.to = ((y355.getD default).to) ∧ y231.1.out = ((y355.getD default).out)))) && (decide (y231.2 = 0))) && (decide (y239.2 = 1))) && (decide (y247.2 = 1))) rfl rfl rfl (gtrue (d1 rfl)) rfl (fun hG hB => ph_val (val_eql (show l 208 = (.int .i64 y257.2) from f208g.1 (gandT rfl hB)) rfl))
    · intro l R46q hle ha hd
      obtain ⟨d0, d1, _⟩ := hd
      have f207 : l 207 = (.bool (((((((((y351 && (decide (y198.1 = 0))) && (decide (y198.2 = 0))) && (y353.getD default)) && (decide (y227.1 = (-1)))) && (decide (y227.2 = 0))) && (decide (y231.1.to = ((y355.getD default).to) ∧ y231.1.out = ((y355.getD default).out)))) && (decide (y231.2 = 0))) && (decide (y239.2 = 1))) && (decide (y247.2 = 1)))) := d0 rfl
      have f209g : phG (true && ((((((((((y351 && (decide (y198.1 = 0))) && (decide (y198.2 = 0))) && (y353.getD default)) && (decide (y227.1 = (-1)))) && (decide (y227.2 = 0))) && (decide (y231.1.to = ((y355.getD default).to) ∧ y231.1.out = ((y355.getD default).out)))) && (decide (y231.2 = 0))) && (decide (y239.2 = 1))) && (decide (y247.2 = 1))) == true)) (phX (.bool (decide (y257.2 = 0)))) (l 209) R46q := d1 rfl
      exact gstep_plain rfl rfl rfl (ph_val (val_and f207 (fun hb => (show l 209 = (.bool (decide (y257.2 = 0))) from f209g.1 (gandT rfl hb))) rfl))
    · intro l R47q hle ha hd
      obtain ⟨d0, d1, _⟩ := hd
      have f210 : l 210 = (.bool ((((((((((y351 && (decide (y198.1 = 0))) && (decide (y198.2 = 0))) && (y353.getD default)) && (decide (y227.1 = (-1)))) && (decide (y227.2 = 0))) && (decide (y231.1.to = ((y355.getD default).to) ∧ y231.1.out = ((y355.getD default).out)))) && (decide (y231.2 = 0))) && (decide (y239.2 = 1))) && (decide (y247.2 = 1))) && (decide (y257.2 = 0)))) := d0 rfl
      exact gstep_plain rfl rfl rfl (ph_val (val_move f210))
    · intro l R48q hle ha hd
      obtain ⟨d0, _⟩ := hd
      have a26 : l 26 = (.bool y285.1) := ha 26 rfl
      exact gstep_guard (Gj := true) (Bj := (((((((((y351 && (decide (y198.1 = 0))) && (decide (y198.2 = 0))) && (y353.getD default)) && (decide (y227.1 = (-1)))) && (decide (y227.2 = 0))) && (decide (y231.1.to = ((y355.getD default).to) ∧ y231.1.out = ((y355.getD default).out)))) && (decide (y231.2 = 0))) && (decide (y239.2 = 1))) && (decide (y247.2 = 1))) && (decide (y257.2 = 0))) rfl rfl rfl (gtrue (d0 rfl)) rfl (fun hG hB => ph_val (val_move a26))
    · intro l R49q hle ha hd
      obtain ⟨d0, d1, _⟩ := hd
      have f211 : l 211 = (.bool ((((((((((y351 && (decide (y198.1 = 0))) && (decide (y198.2 = 0))) && (y353.getD default)) && (decide (y227.1 = (-1)))) && (decide (y227.2 = 0))) && (decide (y231.1.to = ((y355.getD default).to) ∧ y231.1.out = ((y355.getD default).out)))) && (decide (y231.2 = 0))) && (decide (y239.2 = 1))) && (decide (y247.2 = 1))) && (decide (y257.2 = 0)))) := d0 rfl
      have f212g : phG (true && (((((((((((y351 && (decide (y198.1 = 0))) && (decide (y198.2 = 0))) && (y353.getD default)) && (decide (y227.1 = (-1)))) && (decide (y227.2 = 0))) && (decide (y231.1.to = ((y355.getD default).to) ∧ y231.1.out = ((y355.getD default).out)))) && (decide (y231.2 = 0))) && (decide (y239.2 = 1))) && (decide (y247.2 = 1))) && (decide (y257.2 = 0))) == true)) (phX (.bool y285.1)) (l 212) R49q := d1 rfl
      exact gstep_plain rfl rfl rfl (ph_val (val_and f211 (fun hb => (show l 212 = (.bool y285.1) from f212g.1 (gandT rfl hb))) rfl))
    · intro l R50q hle ha hd
      obtain ⟨d0, d1, _⟩ := hd
      have f213 : l 213 = (.bool (((((((((((y351 && (decide (y198.1 = 0))) && (decide (y198.2 = 0))) && (y353.getD default)) && (decide (y227.1 = (-1)))) && (decide (y227.2 = 0))) && (decide (y231.1.to = ((y355.getD default).to) ∧ y231.1.out = ((y355.getD default).out)))) && (decide (y231.2 = 0))) && (decide (y239.2 = 1))) && (decide (y247.2 = 1))) && (decide (y257.2 = 0))) && y285.1)) := d0 rfl
      exact gstep_plain rfl rfl rfl (ph_val (val_move f213))
    · intro l R51q hle ha hd
      obtain ⟨d0, _⟩ := hd
      have a27 : l 27 = (.int .i64 y285.2) := ha 27 rfl
      exact gstep_guard (Gj := true) (Bj := ((((((((((y351 && (decide (y198.1 = 0))) && (decide (y198.2 = 0))) && (y353.getD default)) && (decide (y227.1 = (-1)))) && (decide (y227.2 = 0))) && (decide (y231.1.to = ((y355.getD default).to) ∧ y231.1.out = ((y355.getD default).out)))) && (decide (y231.2 = 0))) && (decide (y239.2 = 1))) && (decide (y247.2 = 1))) && (decide (y257.2 = 0))) && y285.1) rfl rfl rfl (gtrue (d0 rfl)) rfl (fun hG hB => ph_val (val_move a27))
    · intro l R52q hle ha hd
      obtain ⟨d0, d1, _⟩ := hd
      have f215g : phG (true && ((((((((((((y351 && (decide (y198.1 = 0))) && (decide (y198.2 = 0))) && (y353.getD default)) && (decide (y227.1 = (-1)))) && (decide (y227.2 = 0))) && (decide (y231.1.to = ((y355.getD default).to) ∧ y231.1.out = ((y355.getD default).out)))) && (decide (y231.2 = 0))) && (decide (y239.2 = 1))) && (decide (y247.2 = 1))) && (decide (y257.2 = 0))) && y285.1) == true)) (phX (.int .i64 y285.2)) (l 215) R52q := d0 rfl
      exact gstep_guard (Gj := true) (Bj := ((((((((((y351 && (decide (y198.1 = 0))) && (decide (y198.2 = 0))) && (y353.getD default)) && (decide (y227.1 = (-1)))) && (decide (y227.2 = 0))) && (decide (y231.1.to = ((y355.getD default).to) ∧ y231.1.out = ((y355.getD default).out)))) && (decide (y231.2 = 0))) && (decide (y239.2 = 1))) && (decide (y247.2 = 1))) && (decide (y257.2 = 0))) && y285.1) rfl rfl rfl (gtrue (d1 rfl)) rfl (fun hG hB => ph_val (val_eql (show l 215 = (.int .i64 y285.2) from f215g.1 (gandT rfl hB)) rfl))
    · intro l R53q hle ha hd
      obtain ⟨d0, d1, _⟩ := hd
      have f214 : l 214 = (.bool (((((((((((y351 && (decide (y198.1 = 0))) && (decide (y198.2 = 0))) && (y353.getD default)) && (decide (y227.1 = (-1)))) && (decide (y227.2 = 0))) && (decide (y231.1.to = ((y355.getD default).to) ∧ y231.1.out = ((y355.getD default).out)))) && (decide (y231.2 = 0))) && (decide (y239.2 = 1))) && (decide (y247.2 = 1))) && (decide (y257.2 = 0))) && y285.1)) := d0 rfl
      have f216g : phG (true && ((((((((((((y351 && (decide (y198.1 = 0))) && (decide (y198.2 = 0))) && (y353.getD default)) && (decide (y227.1 = (-1)))) && (decide (y227.2 = 0))) && (decide (y231.1.to = ((y355.getD default).to) ∧ y231.1.out = ((y355.getD default).out)))) && (decide (y231.2 = 0))) && (decide (y239.2 = 1))) && (decide (y247.2 = 1))) && (decide (y257.2 = 0))) && y285.1) == true)) (phX (.bool (decide (y285.2 = 0)))) (l 216) R53q := d1 rfl
      exact gstep_plain rfl rfl rfl (ph_val (val_and f214 (fun hb => (show l 216 = (.bool (decide (y285.2 = 0))) from f216g.1 (gandT rfl hb))) rfl))
    · intro l R54q hle ha hd
      obtain ⟨d0, d1, _⟩ := hd
      have f217 : l 217 = (.bool ((((((((((((y351 && (decide (y198.1 = 0))) && (decide (y198.2 = 0))) && (y353.getD default)) && (decide (y227.1 = (-1)))) && (decide (y227.2 = 0))) && (decide (y231.1.to = ((y355.getD default).to) ∧ y231.1.out = ((y355.getD default).out)))) && (decide (y231.2 = 0))) && (decide (y239.2 = 1))) && (decide (y247.2 = 1))) && (decide (y257.2 = 0))) && y285.1) && (decide (y285.2 = 0)))) := d0 rfl
      exact gstep_plain rfl rfl rfl (ph_val (val_move f217))
    · intro l R55q hle ha hd
      obtain ⟨d0, _⟩ := hd
      have a29 : l 29 = (.int .i64 y293.2) := ha 29 rfl
      exact gstep_guard (Gj := true) (Bj := (((((((((((y351 && (decide (y198.1 = 0))) && (decide (y198.2 = 0))) && (y353.getD default)) && (decide (y227.1 = (-1)))) && (decide (y227.2 = 0))) && (decide (y231.1.to = ((y355.getD default).to) ∧ y231.1.out = ((y355.getD default).out)))) && (decide (y231.2 = 0))) && (decide (y239.2 = 1))) && (decide (y247.2 = 1))) && (decide (y257.2 = 0))) && y285.1) && (decide (y285.2 = 0))) rfl rfl rfl (gtrue (d0 rfl)) rfl (fun hG hB => ph_val (val_move a29))
    · intro l R56q hle ha hd
      obtain ⟨d0, d1, _⟩ := hd
      have f219g : phG (true && (((((((((((((y351 && (decide (y198.1 = 0))) && (decide (y198.2 = 0))) && (y353.getD default)) && (decide (y227.1 = (-1)))) && (decide (y227.2 = 0))) && (decide (y231.1.to = ((y355.getD default).to) ∧ y231.1.out = ((y355.getD default).out)))) && (decide (y231.2 = 0))) && (decide (y239.2 = 1))) && (decide (y247.2 = 1))) && (decide (y257.2 = 0))) && y285.1) && (decide (y285.2 = 0))) == true)) (phX (.int .i64 y293.2)) (l 219) R56q := d0 rfl
      exact gstep_guard (Gj := true) (Bj := (((((((((((y351 && (decide (y198.1 = 0))) && (decide (y198.2 = 0))) && (y353.getD default)) && (decide (y227.1 = (-1)))) && (decide (y227.2 = 0))) && (decide (y231.1.to = ((y355.getD default).to) ∧ y231.1.out = ((y355.getD default).out)))) && (decide (y231.2 = 0))) && (decide (y239.2 = 1))) && (decide (y247.2 = 1))) && (decide (y257.2 = 0))) && y285.1) && (decide (y285.2 = 0))) rfl rfl rfl (gtrue (d1 rfl)) rfl (fun hG hB => ph_val (val_eql (show l 219 = (.int .i64 y293.2) from f219g.1 (gandT rfl hB)) rfl))
    · intro l R57q hle ha hd
      obtain ⟨d0, d1, _⟩ := hd
      have f218 : l 218 = (.bool ((((((((((((y351 && (decide (y198.1 = 0))) && (decide (y198.2 = 0))) && (y353.getD default)) && (decide (y227.1 = (-1)))) && (decide (y227.2 = 0))) && (decide (y231.1.to = ((y355.getD default).to) ∧ y231.1.out = ((y355.getD default).out)))) && (decide (y231.2 = 0))) && (decide (y239.2 = 1))) && (decide (y247.2 = 1))) && (decide (y257.2 = 0))) && y285.1) && (decide (y285.2 = 0)))) := d0 rfl
      have f220g : phG (true && (((((((((((((y351 && (decide (y198.1 = 0))) && (decide (y198.2 = 0))) && (y353.getD default)) && (decide (y227.1 = (-1)))) && (decide (y227.2 = 0))) && (decide (y231.1.to = ((y355.getD default).to) ∧ y231.1.out = ((y355.getD default).out)))) && (decide (y231.2 = 0))) && (decide (y239.2 = 1))) && (decide (y247.2 = 1))) && (decide (y257.2 = 0))) && y285.1) && (decide (y285.2 = 0))) == true)) (phX (.bool (decide (y293.2 = 1)))) (l 220) R57q := d1 rfl
      exact gstep_plain rfl rfl rfl (ph_val (val_and f218 (fun hb => (show l 220 = (.bool (decide (y293.2 = 1))) from f220g.1 (gandT rfl hb))) rfl))
    · intro l R58q hle ha hd
      obtain ⟨d0, d1, _⟩ := hd
      have f221 : l 221 = (.bool (((((((((((((y351 && (decide (y198.1 = 0))) && (decide (y198.2 = 0))) && (y353.getD default)) && (decide (y227.1 = (-1)))) && (decide (y227.2 = 0))) && (decide (y231.1.to = ((y355.getD default).to) ∧ y231.1.out = ((y355.getD default).out)))) && (decide (y231.2 = 0))) && (decide (y239.2 = 1))) && (decide (y247.2 = 1))) && (decide (y257.2 = 0))) && y285.1) && (decide (y285.2 = 0))) && (decide (y293.2 = 1)))) := d0 rfl
      exact gstep_plain rfl rfl rfl (ph_val (val_move f221))
    · intro l R59q hle ha hd
      obtain ⟨d0, _⟩ := hd
      have a31 : l 31 = (.int .i64 y323.2) := ha 31 rfl
      exact gstep_guard (Gj := true) (Bj := ((((((((((((y351 && (decide (y198.1 = 0))) && (decide (y198.2 = 0))) && (y353.getD default)) && (decide (y227.1 = (-1)))) && (decide (y227.2 = 0))) && (decide (y231.1.to = ((y355.getD default).to) ∧ y231.1.out = ((y355.getD default).out)))) && (decide (y231.2 = 0))) && (decide (y239.2 = 1))) && (decide (y247.2 = 1))) && (decide (y257.2 = 0))) && y285.1) && (decide (y285.2 = 0))) && (decide (y293.2 = 1))) rfl rfl rfl (gtrue (d0 rfl)) rfl (fun hG hB => ph_val (val_move a31))
    · intro l R60q hle ha hd
      obtain ⟨d0, d1, _⟩ := hd
      have f223g : phG (true && ((((((((((((((y351 && (decide (y198.1 = 0))) && (decide (y198.2 = 0))) && (y353.getD default)) && (decide (y227.1 = (-1)))) && (decide (y227.2 = 0))) && (decide (y231.1.to = ((y355.getD default).to) ∧ y231.1.out = ((y355.getD default).out)))) && (decide (y231.2 = 0))) && (decide (y239.2 = 1))) && (decide (y247.2 = 1))) && (decide (y257.2 = 0))) && y285.1) && (decide (y285.2 = 0))) && (decide (y293.2 = 1))) == true)) (phX (.int .i64 y323.2)) (l 223) R60q := d0 rfl
      exact gstep_guard (Gj := true) (Bj := ((((((((((((y351 && (decide (y198.1 = 0))) && (decide (y198.2 = 0))) && (y353.getD default)) && (decide (y227.1 = (-1)))) && (decide (y227.2 = 0))) && (decide (y231.1.to = ((y355.getD default).to) ∧ y231.1.out = ((y355.getD default).out)))) && (decide (y231.2 = 0))) && (decide (y239.2 = 1))) && (decide (y247.2 = 1))) && (decide (y257.2 = 0))) && y285.1) && (decide (y285.2 = 0))) && (decide (y293.2 = 1))) rfl rfl rfl (gtrue (d1 rfl)) rfl (fun hG hB => ph_val (val_eql (show l 223 = (.int .i64 y323.2) from f223g.1 (gandT rfl hB)) rfl))
    · intro l R61q hle ha hd
      obtain ⟨d0, d1, _⟩ := hd
      have f222 : l 222 = (.bool (((((((((((((y351 && (decide (y198.1 = 0))) && (decide (y198.2 = 0))) && (y353.getD default)) && (decide (y227.1 = (-1)))) && (decide (y227.2 = 0))) && (decide (y231.1.to = ((y355.getD default).to) ∧ y231.1.out = ((y355.getD default).out)))) && (decide (y231.2 = 0))) && (decide (y239.2 = 1))) && (decide (y247.2 = 1))) && (decide (y257.2 = 0))) && y285.1) && (decide (y285.2 = 0))) && (decide (y293.2 = 1)))) := d0 rfl
      have f224g : phG (true && ((((((((((((((y351 && (decide (y198.1 = 0))) && (decide (y198.2 = 0))) && (y353.getD default)) && (decide (y227.1 = (-1)))) && (decide (y227.2 = 0))) && (decide (y231.1.to = ((y355.getD default).to) ∧ y231.1.out = ((y355.getD default).out)))) && (decide (y231.2 = 0))) && (decide (y239.2 = 1))) && (decide (y247.2 = 1))) && (decide (y257.2 = 0))) && y285.1) && (decide (y285.2 = 0))) && (decide (y293.2 = 1))) == true)) (phX (.bool (decide (y323.2 = 1)))) (l 224) R61q := d1 rfl
      exact gstep_plain rfl rfl rfl (ph_val (val_and f222 (fun hb => (show l 224 = (.bool (decide (y323.2 = 1))) from f224g.1 (gandT rfl hb))) rfl))
    · intro l R62q hle ha hd
      obtain ⟨d0, d1, d2, d3, d4, d5, d6, d7, d8, d9, d10, d11, d12, d13, d14, d15, d16, d17, d18, d19, d20, d21, d22, d23, d24, d25, d26, d27, d28, d29, d30, d31, d32, d33, d34, d35, d36, d37, d38, d39, d40, d41, d42, d43, d44, d45, d46, d47, d48, d49, d50, d51, d52, d53, d54, d55, d56, d57, d58, d59, d60, d61, d62, d63, _⟩ := hd
      have f225 : l 225 = (.bool ((((((((((((((y351 && (decide (y198.1 = 0))) && (decide (y198.2 = 0))) && (y353.getD default)) && (decide (y227.1 = (-1)))) && (decide (y227.2 = 0))) && (decide (y231.1.to = ((y355.getD default).to) ∧ y231.1.out = ((y355.getD default).out)))) && (decide (y231.2 = 0))) && (decide (y239.2 = 1))) && (decide (y247.2 = 1))) && (decide (y257.2 = 0))) && y285.1) && (decide (y285.2 = 0))) && (decide (y293.2 = 1))) && (decide (y323.2 = 1)))) := d0 rfl
      exact gstep_plain rfl rfl rfl (ph_val (val_assign f225))
    intro v359 h360
    intro v361 h362
    intro v363 h364
    intro v365 h366
    intro v367 h368
    intro v369 h370
    intro v371 h372
    intro v373 h374
    intro v375 h376
    intro v377 h378
    intro v379 h380
    intro v381 h382
    intro v383 h384
    intro v385 h386
    intro v387 h388
    intro v389 h390
    intro v391 h392
    intro v393 h394
    intro v395 h396
    intro v397 h398
    intro v399 h400
    intro v401 h402
    intro v403 h404
    intro v405 h406
    intro v407 h408
    intro v409 h410
    intro v411 h412
    intro v413 h414
    intro v415 h416
    intro v417 h418
    intro v419 h420
    intro v421 h422
    intro v423 h424
    intro v425 h426
    intro v427 h428
    intro v429 h430
    intro v431 h432
    intro v433 h434
    intro v435 h436
    intro v437 h438
    intro v439 h440
    intro v441 h442
    intro v443 h444
    intro v445 h446
    intro v447 h448
    intro v449 h450
    intro v451 h452
    intro v453 h454
    intro v455 h456
    intro v457 h458
    intro v459 h460
    intro v461 h462
    intro v463 h464
    intro v465 h466
    intro v467 h468
    intro v469 h470
    intro v471 h472
    intro v473 h474
    intro v475 h476
    intro v477 h478
    intro v479 h480
    intro v481 h482
    intro v483 h484
    obtain rfl := Eq.symm h360
    obtain rfl := Eq.symm h362
    obtain rfl := Eq.symm h366
    obtain rfl := Eq.symm h368
    obtain rfl := Eq.symm h374
    obtain rfl := Eq.symm h376
    obtain rfl := Eq.symm h382
    obtain rfl := Eq.symm h384
    obtain rfl := Eq.symm h394
    obtain rfl := Eq.symm h396
    obtain rfl := Eq.symm h402
    obtain rfl := Eq.symm h404
    obtain rfl := Eq.symm h410
    obtain rfl := Eq.symm h412
    obtain rfl := Eq.symm h420
    obtain rfl := Eq.symm h422
    obtain rfl := Eq.symm h428
    obtain rfl := Eq.symm h430
    obtain rfl := Eq.symm h436
    obtain rfl := Eq.symm h438
    obtain rfl := Eq.symm h444
    obtain rfl := Eq.symm h446
    obtain rfl := Eq.symm h452
    obtain rfl := Eq.symm h454
    obtain rfl := Eq.symm h458
    obtain rfl := Eq.symm h460
    obtain rfl := Eq.symm h466
    obtain rfl := Eq.symm h468
    obtain rfl := Eq.symm h474
    obtain rfl := Eq.symm h476
    obtain rfl := Eq.symm h482
    obtain rfl := Eq.symm h484
    refine wo_nil ?_
    refine wg_ret ?_
    obtain rfl := Option.some.inj hd0
    refine body_end (D := []) (J := [box b253 [(.int .i64 y247.1.to), (.int .i64 y247.1.out)] 40, box b245 [(.int .i64 y239.1.to), (.int .i64 y239.1.out)] 40, box b237 [(.int .i64 y231.1.to), (.int .i64 y231.1.out)] 40, f220, f191, box b48 [(.int .i64 2), (.int .i64 2), v43] 27, box b280 [(.int .i64 y257.1.inputs), (.int .i64 y257.1.outputs), (aggC v266 2)] 27, box b316 [(.int .i64 y293.1.inputs), (.int .i64 y293.1.outputs), (aggC v302 2)] 27, box b346 [(.int .i64 y323.1.inputs), (.int .i64 y323.1.outputs), (aggC v332 2)] 27]) (rs := [.tmp 0]) (vs := [(.bool ((((((((((((((y351 && (decide (y198.1 = 0))) && (decide (y198.2 = 0))) && (y353.getD default)) && (decide (y227.1 = (-1)))) && (decide (y227.2 = 0))) && (decide (y231.1.to = ((y355.getD default).to) ∧ y231.1.out = ((y355.getD default).out)))) && (decide (y231.2 = 0))) && (decide (y239.2 = 1))) && (decide (y247.2 = 1))) && (decide (y257.2 = 0))) && y285.1) && (decide (y285.2 = 0))) && (decide (y293.2 = 1))) && (decide (y323.2 = 1))))]) ((((((((((((((((((((le6.trans le12).trans le23).trans le29).trans le36).trans le40).trans le72).trans le80).trans le87).trans le179).trans le187).trans le208).trans le216).trans le236).trans le244).trans le252).trans le261).trans le290).trans le297).trans le327).trans le358) rfl rfl ⟨rfl, trivial⟩ ?_
    exact ⟨rfl, rfl⟩
end GV
end Go.Proofs.Ytohjnbajgbdhhaa
