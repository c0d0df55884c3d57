/- The walks of the functions; printed. -/
import Derived.Test.YtohjnbajgbdhhaaShWe
import Derived.Test.YtohjnbajgbdhhaaRows
namespace Go.Proofs.Ytohjnbajgbdhhaa
namespace GV
open Go.IntWalk
set_option linter.unusedVariables false
set_option linter.unusedSimpArgs false
set_option maxRecDepth 100000
set_option maxHeartbeats 2000000
theorem c_gauntletref01_Check {N : Nat} {R : RH} {w_ : (List Int)} {v_w_ : Value} (h_w_ : VRep (tSl false (tInt .i64)) R v_w_ w_) {inputs : Int} {r : Int} (hd0 : gauntletref01_Check N w_ inputs = some r) : CallP Try.prog 34 #[v_w_, (.int .i64 inputs)] R (fun v R' => v = (.int .i64 r)) := by
  refine callP_of_wg (args := [v_w_, (.int .i64 inputs)]) Try.func34 rfl rfl fun A => ?_
  rw [gauntletref01_Check] at hd0
  refine wg_seq ?_
  refine wg_region ?_
  refine wo_v rfl (val_assign (v := (.int .i64 0)) rfl) ?_
  refine wo_nil ?_
  refine wg_seq ?_
  refine wg_seq ?_
  refine wg_guarded 7 [] [phX (.int .i64 inputs), phX (.bool (decide (16 < inputs))), phX (.bool (decide (16 < inputs))), phG (true && ((decide (16 < inputs)) == false)) (phX v_w_), phG (true && ((decide (16 < inputs)) == false)) (phX (.int .i64 (↑w_.length : Int))), phG (true && ((decide (16 < inputs)) == false)) (phX (.bool (decide (256 < (↑w_.length : Int))))), phX (.bool ((decide (16 < inputs)) || (decide (256 < (↑w_.length : Int)))))] (by kernel_rfl) (by kernel_rfl) (monoOk_of ⟨mono_x, mono_x, mono_x, (mono_g mono_x), (mono_g mono_x), (mono_g mono_x), mono_x, trivial⟩) ⟨?_, ?_, ?_, ?_, ?_, ?_, ?_, trivial⟩ fun R1 le2 => ?_
  · intro l R0q hle ha hd
    have a1 : l 1 = (.int .i64 inputs) := ha 1 rfl
    exact gstep_plain rfl rfl rfl (ph_val (val_move a1))
  · intro l R1q hle ha hd
    obtain ⟨d0, _⟩ := hd
    have f6 : l 6 = (.int .i64 inputs) := d0 rfl
    exact gstep_plain rfl rfl rfl (ph_val (val_gtr f6 rfl))
  · intro l R2q hle ha hd
    obtain ⟨d0, _⟩ := hd
    have f7 : l 7 = (.bool (decide (16 < inputs))) := d0 rfl
    exact gstep_plain rfl rfl rfl (ph_val (val_move f7))
  · intro l R3q hle ha hd
    obtain ⟨d0, _⟩ := hd
    have a0 : l 0 = v_w_ := ha 0 rfl
    exact gstep_guard (Gj := true) (Bj := decide (16 < inputs)) rfl rfl rfl (gtrue (d0 rfl)) rfl (fun hG hB => ph_val (val_move a0))
  · intro l R4q hle ha hd
    obtain ⟨d0, d1, _⟩ := hd
    have f9g : phG (true && ((decide (16 < inputs)) == false)) (phX v_w_) (l 9) R4q := d0 rfl
    exact gstep_guard (Gj := true) (Bj := decide (16 < inputs)) rfl rfl rfl (gtrue (d1 rfl)) rfl (fun hG hB => ph_val (val_lenR rfl Try.underlying49 (show l 9 = v_w_ from f9g.1 (gandT rfl hB)) (sl_s (h_w_.mono hle))))
  · intro l R5q hle ha hd
    obtain ⟨d0, d1, _⟩ := hd
    have f10g : phG (true && ((decide (16 < inputs)) == false)) (phX (.int .i64 (↑w_.length : Int))) (l 10) R5q := d0 rfl
    exact gstep_guard (Gj := true) (Bj := decide (16 < inputs)) rfl rfl rfl (gtrue (d1 rfl)) rfl (fun hG hB => ph_val (val_gtr (show l 10 = (.int .i64 (↑w_.length : Int)) from f10g.1 (gandT rfl hB)) rfl))
  · intro l R6q hle ha hd
    obtain ⟨d0, d1, _⟩ := hd
    have f8 : l 8 = (.bool (decide (16 < inputs))) := d0 rfl
    have f11g : phG (true && ((decide (16 < inputs)) == false)) (phX (.bool (decide (256 < (↑w_.length : Int))))) (l 11) R6q := d1 rfl
    exact gstep_plain rfl rfl rfl (ph_val (val_or f8 rfl (fun hb => (show l 11 = (.bool (decide (256 < (↑w_.length : Int)))) from f11g.1 (gandT rfl hb)))))
  intro v3 h4
  intro v5 h6
  intro v7 h8
  intro v9 h10
  intro v11 h12
  intro v13 h14
  intro v15 h16
  obtain rfl := Eq.symm h4
  obtain rfl := Eq.symm h6
  obtain rfl := Eq.symm h8
  obtain rfl := Eq.symm h16
  refine wo_nil ?_
  refine wg_cond rfl (fun e17 => ?_) (fun e17 => ?_)
  · replace hd0 := sel_t e17 hd0; clear e17
    refine wg_seq ?_
    refine wg_region ?_
    refine wo_v rfl (val_assign (v := (.int .i64 3)) rfl) ?_
    refine wo_nil ?_
    refine wg_ret ?_
    obtain rfl := Option.some.inj hd0
    refine body_end (D := []) (J := []) (rs := [.tmp 4]) (vs := [(.int .i64 3)]) le2 rfl rfl ⟨rfl, trivial⟩ ?_
    exact ⟨rfl, rfl⟩
  · replace hd0 := sel_f e17 hd0; clear e17
    refine wg_skip ?_
    refine wg_seq ?_
    refine wg_seq ?_
    refine wg_region ?_
    refine wo_v rfl (val_move (v := (.int .i64 inputs)) rfl) ?_
    refine wo_v rfl (val_lss rfl rfl) ?_
    refine wo_nil ?_
    refine wg_cond rfl (fun e18 => ?_) (fun e18 => ?_)
    · replace hd0 := sel_t e18 hd0; clear e18
      refine wg_seq ?_
      refine wg_region ?_
      refine wo_v rfl (val_assign (v := (.int .i64 1)) rfl) ?_
      refine wo_nil ?_
      refine wg_ret ?_
      obtain rfl := Option.some.inj hd0
      refine body_end (D := []) (J := []) (rs := [.tmp 4]) (vs := [(.int .i64 1)]) le2 rfl rfl ⟨rfl, trivial⟩ ?_
      exact ⟨rfl, rfl⟩
    · replace hd0 := sel_f e18 hd0; clear e18
      refine wg_skip ?_
      replace hd0 := bd_some hd0; obtain ⟨q20, hd1, hd0⟩ := hd0
      refine wg_meet (γ := Unit) true [5, 15, 16, 17, 18, 21, 22, 23, 24, 25, 26, 27, 28, 29, 30, 31, 32, 33, 4, 19, 20] (fun g => []) (fun g => [] ++ A) (fun g R => q20 = Ex.go g ∧ True) ?_ ?_
      ·
        refine wg_seq ?_
        refine wg_region ?_
        refine wo_v rfl (val_assign (v := (.int .i64 0)) rfl) ?_
        refine wo_nil ?_
        refine wg_block ?_
        refine wg_loopS (γ := Nat × Int) true [15, 16, 17, 18, 21, 22, 23, 24, 25, 26, 27, 28, 29, 30, 31, 32, 33, 4, 19, 20, 5] (fun g => [(5, (.int .i64 g.2))]) (fun g => [] ++ A) (fun g R => gauntletref01_Check_L1 N w_ inputs g.1 g.2 = some q20 ∧ True) (fun g => g.1) (N, 0) ⟨rfl, trivial⟩ ⟨[], List.Perm.refl _⟩ ⟨hd1, trivial⟩ (fun _ => rfl) ?_
        clear hd1
        rintro ⟨F23, x24⟩ j60 D61 R25 hD62 le26 ⟨hd1, _⟩
        obtain rfl := hD62 rfl
        rcases F23 with _ | F23
        · exact none_elim hd1
        replace hd1 : gauntletref01_Check_L1 N w_ inputs (F23 + 1) x24 = some q20 := hd1; rw [gauntletref01_Check_L1] at hd1
        refine wg_seq ?_
        refine wg_seq ?_
        refine wg_region ?_
        refine wo_v rfl (val_move (v := (.int .i64 x24)) rfl) ?_
        refine wo_v rfl (val_move (v := v_w_) rfl) ?_
        refine wo_v rfl (val_lenR rfl Try.underlying49 rfl (sl_s (h_w_.mono (le2.trans le26)))) ?_
        refine wo_v rfl (val_lss rfl rfl) ?_
        refine wo_nil ?_
        refine wg_cond rfl (fun e27 => ?_) (fun e27 => ?_)
        · replace hd1 := sel_t e27 hd1; clear e27
          refine wg_skip ?_
          refine wg_seq ?_
          refine wg_block ?_
          refine wg_seq ?_
          have g28 := (gd_some hd1).1; replace hd1 := (gd_some hd1).2
          have g29 := (gd_some hd1).1; replace hd1 := (gd_some hd1).2
          refine wg_guarded 13 [] [phX v_w_, phX (.int .i64 x24), phP (tInt .i64) (ix w_ x24), phX (.int .i64 (ix w_ x24)), phX (.bool (decide ((ix w_ x24) < 0))), phX (.bool (decide ((ix w_ x24) < 0))), phG (true && ((decide ((ix w_ x24) < 0)) == false)) (phX v_w_), phG (true && ((decide ((ix w_ x24) < 0)) == false)) (phX (.int .i64 x24)), phG (true && ((decide ((ix w_ x24) < 0)) == false)) (phP (tInt .i64) (ix w_ x24)), phG (true && ((decide ((ix w_ x24) < 0)) == false)) (phX (.int .i64 (ix w_ x24))), phG (true && ((decide ((ix w_ x24) < 0)) == false)) (phX (.int .i64 inputs)), phG (true && ((decide ((ix w_ x24) < 0)) == false)) (phX (.bool (decide (inputs ≤ (ix w_ x24))))), phX (.bool ((decide ((ix w_ x24) < 0)) || (decide (inputs ≤ (ix w_ x24)))))] (by kernel_rfl) (by kernel_rfl) (monoOk_of ⟨mono_x, mono_x, mono_p, mono_x, mono_x, mono_x, (mono_g mono_x), (mono_g mono_x), (mono_g mono_p), (mono_g mono_x), (mono_g mono_x), (mono_g mono_x), mono_x, trivial⟩) ⟨?_, ?_, ?_, ?_, ?_, ?_, ?_, ?_, ?_, ?_, ?_, ?_, ?_, trivial⟩ fun R30 le31 => ?_
          · intro l R0q hle ha hd
            have a0 : l 0 = v_w_ := ha 0 rfl
            exact gstep_plain rfl rfl rfl (ph_val (val_move a0))
          · intro l R1q hle ha hd
            have a5 : l 5 = (.int .i64 x24) := ha 5 rfl
            exact gstep_plain rfl rfl rfl (ph_val (val_move a5))
          · intro l R2q hle ha hd
            obtain ⟨d0, d1, _⟩ := hd
            have f21 : l 21 = v_w_ := d0 rfl
            have f22 : l 22 = (.int .i64 x24) := d1 rfl
            exact gstep_plain rfl rfl rfl (ph_indexR (i := x24.toNat) sl49 f21 (sl_s ((h_w_.mono (le2.trans le26)).mono hle)) (idx_nonneg f22 g28.1) (okI_lt g28))
          · intro l R3q hle ha hd
            obtain ⟨d0, _⟩ := hd
            have f23 : phP (tInt .i64) (ix w_ x24) (l 23) R3q := d0 rfl
            exact gstep_plain rfl rfl rfl (ph_exact (ph_loadR ty3 rfl f23) (fun _ _ h => vrep_int.1 h))
          · intro l R4q hle ha hd
            obtain ⟨d0, _⟩ := hd
            have f24 : l 24 = (.int .i64 (ix w_ x24)) := d0 rfl
            exact gstep_plain rfl rfl rfl (ph_val (val_lss f24 rfl))
          · intro l R5q hle ha hd
            obtain ⟨d0, _⟩ := hd
            have f25 : l 25 = (.bool (decide ((ix w_ x24) < 0))) := d0 rfl
            exact gstep_plain rfl rfl rfl (ph_val (val_move f25))
          · intro l R6q hle ha hd
            obtain ⟨d0, _⟩ := hd
            have a0 : l 0 = v_w_ := ha 0 rfl
            exact gstep_guard (Gj := true) (Bj := decide ((ix w_ x24) < 0)) rfl rfl rfl (gtrue (d0 rfl)) rfl (fun hG hB => ph_val (val_move a0))
          · intro l R7q hle ha hd
            obtain ⟨d0, _⟩ := hd
            have a5 : l 5 = (.int .i64 x24) := ha 5 rfl
            exact gstep_guard (Gj := true) (Bj := decide ((ix w_ x24) < 0)) rfl rfl rfl (gtrue (d0 rfl)) rfl (fun hG hB => ph_val (val_move a5))
          · intro l R8q hle ha hd
            obtain ⟨d0, d1, d2, _⟩ := hd
            have f27g : phG (true && ((decide ((ix w_ x24) < 0)) == false)) (phX v_w_) (l 27) R8q := d0 rfl
            have f28g : phG (true && ((decide ((ix w_ x24) < 0)) == false)) (phX (.int .i64 x24)) (l 28) R8q := d1 rfl
            exact gstep_guard (Gj := true) (Bj := decide ((ix w_ x24) < 0)) rfl rfl rfl (gtrue (d2 rfl)) rfl (fun hG hB => ph_indexR (i := x24.toNat) sl49 (show l 27 = v_w_ from f27g.1 (gandT rfl hB)) (sl_s ((h_w_.mono (le2.trans le26)).mono hle)) (idx_nonneg (show l 28 = (.int .i64 x24) from f28g.1 (gandT rfl hB)) (g29 (gandT hG hB)).1) (okI_lt (g29 (gandT hG hB))))
          · intro l R9q hle ha hd
            obtain ⟨d0, d1, _⟩ := hd
            have f29g : phG (true && ((decide ((ix w_ x24) < 0)) == false)) (phP (tInt .i64) (ix w_ x24)) (l 29) R9q := d0 rfl
            exact gstep_guard (Gj := true) (Bj := decide ((ix w_ x24) < 0)) rfl rfl rfl (gtrue (d1 rfl)) rfl (fun hG hB => ph_exact (ph_loadR ty3 rfl (f29g.1 (gandT rfl hB))) (fun _ _ h => vrep_int.1 h))
          · intro l R10q hle ha hd
            obtain ⟨d0, _⟩ := hd
            have a1 : l 1 = (.int .i64 inputs) := ha 1 rfl
            exact gstep_guard (Gj := true) (Bj := decide ((ix w_ x24) < 0)) rfl rfl rfl (gtrue (d0 rfl)) rfl (fun hG hB => ph_val (val_move a1))
          · intro l R11q hle ha hd
            obtain ⟨d0, d1, d2, _⟩ := hd
            have f30g : phG (true && ((decide ((ix w_ x24) < 0)) == false)) (phX (.int .i64 (ix w_ x24))) (l 30) R11q := d0 rfl
            have f31g : phG (true && ((decide ((ix w_ x24) < 0)) == false)) (phX (.int .i64 inputs)) (l 31) R11q := d1 rfl
            exact gstep_guard (Gj := true) (Bj := decide ((ix w_ x24) < 0)) rfl rfl rfl (gtrue (d2 rfl)) rfl (fun hG hB => ph_val (val_geq (show l 30 = (.int .i64 (ix w_ x24)) from f30g.1 (gandT rfl hB)) (show l 31 = (.int .i64 inputs) from f31g.1 (gandT rfl hB))))
          · intro l R12q hle ha hd
            obtain ⟨d0, d1, _⟩ := hd
            have f26 : l 26 = (.bool (decide ((ix w_ x24) < 0))) := d0 rfl
            have f32g : phG (true && ((decide ((ix w_ x24) < 0)) == false)) (phX (.bool (decide (inputs ≤ (ix w_ x24))))) (l 32) R12q := d1 rfl
            exact gstep_plain rfl rfl rfl (ph_val (val_or f26 rfl (fun hb => (show l 32 = (.bool (decide (inputs ≤ (ix w_ x24)))) from f32g.1 (gandT rfl hb)))))
          intro v32 h33
          intro v34 h35
          intro v36 h37
          intro v38 h39
          intro v40 h41
          intro v42 h43
          intro v44 h45
          intro v46 h47
          intro v48 h49
          intro v50 h51
          intro v52 h53
          intro v54 h55
          intro v56 h57
          obtain rfl := Eq.symm h33
          obtain rfl := Eq.symm h35
          obtain rfl := Eq.symm h39
          obtain rfl := Eq.symm h41
          obtain rfl := Eq.symm h43
          obtain rfl := Eq.symm h57
          refine wo_nil ?_
          refine wg_cond rfl (fun e58 => ?_) (fun e58 => ?_)
          · replace hd1 := sel_t e58 hd1; clear e58
            refine wg_seq ?_
            refine wg_region ?_
            refine wo_v rfl (val_assign (v := (.int .i64 1)) rfl) ?_
            refine wo_nil ?_
            refine wg_ret ?_
            replace hd0 := on_rt hd1 hd0
            obtain rfl := Option.some.inj hd0
            refine body_end (D := []) (J := []) (rs := [.tmp 4]) (vs := [(.int .i64 1)]) ((le2.trans le26).trans le31) rfl rfl ⟨rfl, trivial⟩ ?_
            exact ⟨rfl, rfl⟩
          · replace hd1 := sel_f e58 hd1; clear e58
            refine wg_skip ?_
            refine wg_region ?_
            refine wo_v rfl (val_move (v := (.int .i64 x24)) rfl) ?_
            have g59 := (gd_some hd1).1; replace hd1 := (gd_some hd1).2
            refine wo_v rfl (val_add rfl rfl g59) ?_
            refine wo_v rfl (val_assign (v := (.int .i64 (x24 + 1))) rfl) ?_
            refine wo_nil ?_
            exact ⟨(fun _ => rfl), le31, (by repeat (first | exact off_self | refine off_upd rfl ?_ | refine off_setl rfl ?_ | refine off_mask_sub rfl ?_)), (F23, x24 + 1), Nat.lt_succ_self _, ⟨rfl, trivial⟩, ⟨[], List.Perm.refl _⟩, hd1, trivial⟩
        · replace hd1 := sel_f e27 hd1; clear e27
          refine wg_exit ?_
          exact ⟨(fun _ => rfl), le26, (by repeat (first | exact off_self | refine off_upd rfl ?_ | refine off_setl rfl ?_ | refine off_mask_sub rfl ?_)), (), trivial, ⟨[], List.Perm.refl _⟩, (Option.some.inj hd1).symm, trivial⟩
      ·
        rintro o19 j63 D64 R21 hD65 le22 ⟨rfl, _⟩
        obtain rfl := hD65 rfl
        replace hd0 := on_go hd0
        refine wg_seq ?_
        refine wg_region ?_
        refine wo_v rfl (val_assign (v := (.int .i64 0)) rfl) ?_
        refine wo_nil ?_
        refine wg_ret ?_
        obtain rfl := Option.some.inj hd0
        refine body_end (D := []) (J := []) (rs := [.tmp 4]) (vs := [(.int .i64 0)]) (le2.trans le22) rfl rfl ⟨rfl, trivial⟩ ?_
        exact ⟨rfl, rfl⟩
theorem en34 : Enters Try.prog 34 := enters_of Try.func34 rfl (by kernel_rfl)
theorem c_gauntletlaw04_MachinesCheck {N : Nat} {R : RH} {m : Mach} {v_m : Value} (h_m : VRep (kMach false false) R v_m m) {place : (Int × Int)} {w_ : (List Int)} {v_w_ : Value} (h_w_ : VRep (tSl false (tInt .i64)) R v_w_ w_) {r : Bool} (hd0 : gauntletlaw04_MachinesCheck N m place w_ = some r) : CallP Try.prog 6 #[v_m, (enc_A2tInti64 place), v_w_] R (fun v R' => v = (.bool r)) := by
  refine callP_of_wg (args := [v_m, (enc_A2tInti64 place), v_w_]) Try.func6 rfl rfl fun A => ?_
  rw [gauntletlaw04_MachinesCheck] at hd0
  refine wg_seq ?_
  refine wg_region ?_
  refine wo_boxR (T := (kMach false false)) rfl rfl h_m fun v1 R3 le4 h2 => ?_
  refine wo_boxR (T := kA2tInti64) rfl rfl (vrep_A2tInti64.2 rfl) fun v5 R7 le8 h6 => ?_
  refine wo_v rfl (val_assign (v := (.bool false)) rfl) ?_
  refine wo_nil ?_
  refine wg_seq ?_
  refine wg_seq ?_
  replace hd0 := bd_some hd0; obtain ⟨y9, c10, hd0⟩ := hd0
  refine wg_guarded 8 [] [phR (kMach false false) m, phX (.int .i64 y9), phX (.bool (decide (y9 = 1))), phX (.bool (decide (y9 = 1))), phG (true && ((decide (y9 = 1)) == false)) (phX v_w_), phG (true && ((decide (y9 = 1)) == false)) (phX (.int .i64 (↑w_.length : Int))), phG (true && ((decide (y9 = 1)) == false)) (phX (.bool (decide (300 < (↑w_.length : Int))))), phX (.bool ((decide (y9 = 1)) || (decide (300 < (↑w_.length : Int)))))] (by kernel_rfl) (by kernel_rfl) (monoOk_of ⟨mono_r, mono_x, mono_x, mono_x, (mono_g mono_x), (mono_g mono_x), (mono_g mono_x), mono_x, trivial⟩) ⟨?_, ?_, ?_, ?_, ?_, ?_, ?_, ?_, trivial⟩ fun R11 le12 => ?_
  · intro l R0q hle ha hd
    have a3 : l 3 = v1 := ha 3 rfl
    exact gstep_plain rfl rfl rfl (ph_loadR ty27 a3 ((h2.mono le8).mono hle))
  · intro l R1q hle ha hd
    obtain ⟨d0, _⟩ := hd
    have f27 : phR (kMach false false) m (l 27) R1q := d0 rfl
    exact gstep_plain rfl rfl rfl (ph_callP en29 rfl (c_gauntletlaw04_great f27 c10) (fun _ _ h => h))
  · intro l R2q hle ha hd
    obtain ⟨d0, _⟩ := hd
    have f28 : l 28 = (.int .i64 y9) := d0 rfl
    exact gstep_plain rfl rfl rfl (ph_val (val_eql f28 rfl))
  · intro l R3q hle ha hd
    obtain ⟨d0, d1, _⟩ := hd
    have f29 : l 29 = (.bool (decide (y9 = 1))) := d0 rfl
    exact gstep_plain rfl rfl rfl (ph_val (val_move f29))
  · intro l R4q hle ha hd
    obtain ⟨d0, _⟩ := hd
    have a2 : l 2 = v_w_ := ha 2 rfl
    exact gstep_guard (Gj := true) (Bj := decide (y9 = 1)) rfl rfl rfl (gtrue (d0 rfl)) rfl (fun hG hB => ph_val (val_move a2))
  · intro l R5q hle ha hd
    obtain ⟨d0, d1, _⟩ := hd
    have f31g : phG (true && ((decide (y9 = 1)) == false)) (phX v_w_) (l 31) R5q := d0 rfl
    exact gstep_guard (Gj := true) (Bj := decide (y9 = 1)) rfl rfl rfl (gtrue (d1 rfl)) rfl (fun hG hB => ph_val (val_lenR rfl Try.underlying49 (show l 31 = v_w_ from f31g.1 (gandT rfl hB)) (sl_s ((h_w_.mono (le4.trans le8)).mono hle))))
  · intro l R6q hle ha hd
    obtain ⟨d0, d1, _⟩ := hd
    have f32g : phG (true && ((decide (y9 = 1)) == false)) (phX (.int .i64 (↑w_.length : Int))) (l 32) R6q := d0 rfl
    exact gstep_guard (Gj := true) (Bj := decide (y9 = 1)) rfl rfl rfl (gtrue (d1 rfl)) rfl (fun hG hB => ph_val (val_gtr (show l 32 = (.int .i64 (↑w_.length : Int)) from f32g.1 (gandT rfl hB)) rfl))
  · intro l R7q hle ha hd
    obtain ⟨d0, d1, _⟩ := hd
    have f30 : l 30 = (.bool (decide (y9 = 1))) := d0 rfl
    have f33g : phG (true && ((decide (y9 = 1)) == false)) (phX (.bool (decide (300 < (↑w_.length : Int))))) (l 33) R7q := d1 rfl
    exact gstep_plain rfl rfl rfl (ph_val (val_or f30 rfl (fun hb => (show l 33 = (.bool (decide (300 < (↑w_.length : Int)))) from f33g.1 (gandT rfl hb)))))
  intro v13 h14
  intro v15 h16
  intro v17 h18
  intro v19 h20
  intro v21 h22
  intro v23 h24
  intro v25 h26
  intro v27 h28
  obtain rfl := Eq.symm h16
  obtain rfl := Eq.symm h18
  obtain rfl := Eq.symm h20
  obtain rfl := Eq.symm h28
  refine wo_nil ?_
  refine wg_cond rfl (fun e29 => ?_) (fun e29 => ?_)
  · replace hd0 := sel_t e29 hd0; clear e29
    refine wg_seq ?_
    refine wg_region ?_
    refine wo_v rfl (val_assign (v := (.bool true)) rfl) ?_
    refine wo_nil ?_
    refine wg_ret ?_
    obtain rfl := Option.some.inj hd0
    refine body_end (D := []) (J := []) (rs := [.tmp 6]) (vs := [(.bool true)]) ((le4.trans le8).trans le12) rfl rfl ⟨rfl, trivial⟩ ?_
    exact ⟨rfl, rfl⟩
  · replace hd0 := sel_f e29 hd0; clear e29
    refine wg_skip ?_
    refine wg_seq ?_
    refine wg_region ?_
    refine wo_loadR rfl ty27 rfl (h2.mono (le8.trans le12)) fun v30 h31 => ?_
    replace hd0 := bd_some hd0; obtain ⟨y32, c33, hd0⟩ := hd0
    refine wo_callP rfl en30 rfl (c_gauntletref04_Check h31 c33) fun v34 R36 le37 h35 => ?_
    obtain rfl := h35
    refine wo_v rfl (val_assign (v := (.int .i64 y32)) rfl) ?_
    refine wo_nil ?_
    refine wg_seq ?_
    refine wg_region ?_
    refine wo_loadR rfl ty27 rfl (h2.mono ((le8.trans le12).trans le37)) fun v38 h39 => ?_
    replace hd0 := bd_some hd0; obtain ⟨y40, c41, hd0⟩ := hd0
    refine wo_callP rfl en11 rfl (c_machines_Complete h39 c41) fun v42 R44 le45 h43 => ?_
    obtain rfl := h43
    refine wo_v rfl (val_move (v := (.tuple #[(.bool y40.1), (.int .i64 y40.2)])) rfl) ?_
    refine wo_v rfl (val_extract rfl rfl) ?_
    refine wo_v rfl (val_extract rfl rfl) ?_
    refine wo_v rfl (val_assign (v := (.bool y40.1)) rfl) ?_
    refine wo_v rfl (val_assign (v := (.int .i64 y40.2)) rfl) ?_
    refine wo_nil ?_
    refine wg_seq ?_
    refine wg_region ?_
    refine wo_loadR rfl ty27 rfl (h2.mono (((le8.trans le12).trans le37).trans le45)) fun v46 h47 => ?_
    replace hd0 := bd_some hd0; obtain ⟨y48, c49, hd0⟩ := hd0
    refine wo_callP rfl en12 rfl (c_machines_Connected h47 c49) fun v50 R52 le53 h51 => ?_
    obtain rfl := h51
    refine wo_v rfl (val_move (v := (.tuple #[(.bool y48.1), (.int .i64 y48.2)])) rfl) ?_
    refine wo_v rfl (val_extract rfl rfl) ?_
    refine wo_v rfl (val_extract rfl rfl) ?_
    refine wo_v rfl (val_assign (v := (.bool y48.1)) rfl) ?_
    refine wo_v rfl (val_assign (v := (.int .i64 y48.2)) rfl) ?_
    refine wo_nil ?_
    refine wg_seq ?_
    refine wg_region ?_
    refine wo_loadR rfl ty27 rfl (h2.mono ((((le8.trans le12).trans le37).trans le45).trans le53)) fun v54 h55 => ?_
    replace hd0 := bd_some hd0; obtain ⟨y56, c57, hd0⟩ := hd0
    refine wo_callP rfl en13 rfl (c_machines_Transitions h55 c57) fun v58 R60 le61 h59 => ?_
    obtain rfl := h59
    refine wo_v rfl (val_move (v := (.tuple #[(.int .i64 y56.1), (.int .i64 y56.2)])) rfl) ?_
    refine wo_v rfl (val_extract rfl rfl) ?_
    refine wo_v rfl (val_extract rfl rfl) ?_
    refine wo_v rfl (val_assign (v := (.int .i64 y56.1)) rfl) ?_
    refine wo_v rfl (val_assign (v := (.int .i64 y56.2)) rfl) ?_
    refine wo_nil ?_
    refine wg_seq ?_
    refine wg_region ?_
    refine wo_loadR rfl ty27 rfl (h2.mono (((((le8.trans le12).trans le37).trans le45).trans le53).trans le61)) fun v62 h63 => ?_
    replace hd0 := bd_some hd0; obtain ⟨y64, c65, hd0⟩ := hd0
    refine wo_callP rfl en14 rfl (c_machines_Undefined h63 c65) fun v66 R68 le69 h67 => ?_
    obtain ⟨v70, rfl, h71⟩ := h67
    refine wo_v rfl (val_move (v := (.tuple #[v70, (.int .i64 y64.2)])) rfl) ?_
    refine wo_v rfl (val_extract rfl rfl) ?_
    refine wo_v rfl (val_extract rfl rfl) ?_
    refine wo_v rfl (val_assign (v := v70) rfl) ?_
    refine wo_v rfl (val_assign (v := (.int .i64 y64.2)) rfl) ?_
    refine wo_nil ?_
    refine wg_seq ?_
    refine wg_seq ?_
    replace hd0 := bd_some hd0; obtain ⟨y72, c73, hd0⟩ := hd0
    replace hd0 := bd_some hd0; obtain ⟨y74, c75, hd0⟩ := hd0
    refine wg_guarded 51 [] [phR (kMach false false) m, phX (.int .i64 y72), phX (.int .i64 y32), phX (.bool (decide (y72 ≠ y32))), phX (.bool (decide (y72 ≠ y32))), phG (true && ((decide (y72 ≠ y32)) == false)) (phX (.int .i64 y40.2)), phG (true && ((decide (y72 ≠ y32)) == false)) (phX (.int .i64 y32)), phG (true && ((decide (y72 ≠ y32)) == false)) (phX (.bool (decide (y40.2 ≠ y32)))), phX (.bool ((decide (y72 ≠ y32)) || (decide (y40.2 ≠ y32)))), phX (.bool ((decide (y72 ≠ y32)) || (decide (y40.2 ≠ y32)))), phG (true && (((decide (y72 ≠ y32)) || (decide (y40.2 ≠ y32))) == false)) (phX (.int .i64 y48.2)), phG (true && (((decide (y72 ≠ y32)) || (decide (y40.2 ≠ y32))) == false)) (phX (.int .i64 y32)), phG (true && (((decide (y72 ≠ y32)) || (decide (y40.2 ≠ y32))) == false)) (phX (.bool (decide (y48.2 ≠ y32)))), phX (.bool (((decide (y72 ≠ y32)) || (decide (y40.2 ≠ y32))) || (decide (y48.2 ≠ y32)))), phX (.bool (((decide (y72 ≠ y32)) || (decide (y40.2 ≠ y32))) || (decide (y48.2 ≠ y32)))), phG (true && ((((decide (y72 ≠ y32)) || (decide (y40.2 ≠ y32))) || (decide (y48.2 ≠ y32))) == false)) (phX (.int .i64 y56.2)), phG (true && ((((decide (y72 ≠ y32)) || (decide (y40.2 ≠ y32))) || (decide (y48.2 ≠ y32))) == false)) (phX (.int .i64 y32)), phG (true && ((((decide (y72 ≠ y32)) || (decide (y40.2 ≠ y32))) || (decide (y48.2 ≠ y32))) == false)) (phX (.bool (decide (y56.2 ≠ y32)))), phX (.bool ((((decide (y72 ≠ y32)) || (decide (y40.2 ≠ y32))) || (decide (y48.2 ≠ y32))) || (decide (y56.2 ≠ y32)))), phX (.bool ((((decide (y72 ≠ y32)) || (decide (y40.2 ≠ y32))) || (decide (y48.2 ≠ y32))) || (decide (y56.2 ≠ y32)))), phG (true && (((((decide (y72 ≠ y32)) || (decide (y40.2 ≠ y32))) || (decide (y48.2 ≠ y32))) || (decide (y56.2 ≠ y32))) == false)) (phX (.int .i64 y64.2)), phG (true && (((((decide (y72 ≠ y32)) || (decide (y40.2 ≠ y32))) || (decide (y48.2 ≠ y32))) || (decide (y56.2 ≠ y32))) == false)) (phX (.int .i64 y32)), phG (true && (((((decide (y72 ≠ y32)) || (decide (y40.2 ≠ y32))) || (decide (y48.2 ≠ y32))) || (decide (y56.2 ≠ y32))) == false)) (phX (.bool (decide (y64.2 ≠ y32)))), phX (.bool (((((decide (y72 ≠ y32)) || (decide (y40.2 ≠ y32))) || (decide (y48.2 ≠ y32))) || (decide (y56.2 ≠ y32))) || (decide (y64.2 ≠ y32)))), phX (.bool (((((decide (y72 ≠ y32)) || (decide (y40.2 ≠ y32))) || (decide (y48.2 ≠ y32))) || (decide (y56.2 ≠ y32))) || (decide (y64.2 ≠ y32)))), phG (true && ((((((decide (y72 ≠ y32)) || (decide (y40.2 ≠ y32))) || (decide (y48.2 ≠ y32))) || (decide (y56.2 ≠ y32))) || (decide (y64.2 ≠ y32))) == false)) (phX (.int .i64 y32)), phG (true && ((((((decide (y72 ≠ y32)) || (decide (y40.2 ≠ y32))) || (decide (y48.2 ≠ y32))) || (decide (y56.2 ≠ y32))) || (decide (y64.2 ≠ y32))) == false)) (phX (.bool (decide (y32 ≠ 0)))), phG (true && ((((((decide (y72 ≠ y32)) || (decide (y40.2 ≠ y32))) || (decide (y48.2 ≠ y32))) || (decide (y56.2 ≠ y32))) || (decide (y64.2 ≠ y32))) == false)) (phX (.bool (decide (y32 ≠ 0)))), phG ((true && ((((((decide (y72 ≠ y32)) || (decide (y40.2 ≠ y32))) || (decide (y48.2 ≠ y32))) || (decide (y56.2 ≠ y32))) || (decide (y64.2 ≠ y32))) == false)) && ((decide (y32 ≠ 0)) == true)) (phX (.bool y40.1)), phG ((true && ((((((decide (y72 ≠ y32)) || (decide (y40.2 ≠ y32))) || (decide (y48.2 ≠ y32))) || (decide (y56.2 ≠ y32))) || (decide (y64.2 ≠ y32))) == false)) && ((decide (y32 ≠ 0)) == true)) (phX (.bool y40.1)), phG (((true && ((((((decide (y72 ≠ y32)) || (decide (y40.2 ≠ y32))) || (decide (y48.2 ≠ y32))) || (decide (y56.2 ≠ y32))) || (decide (y64.2 ≠ y32))) == false)) && ((decide (y32 ≠ 0)) == true)) && (y40.1 == false)) (phX (.bool y48.1)), phG ((true && ((((((decide (y72 ≠ y32)) || (decide (y40.2 ≠ y32))) || (decide (y48.2 ≠ y32))) || (decide (y56.2 ≠ y32))) || (decide (y64.2 ≠ y32))) == false)) && ((decide (y32 ≠ 0)) == true)) (phX (.bool (y40.1 || y48.1))), phG ((true && ((((((decide (y72 ≠ y32)) || (decide (y40.2 ≠ y32))) || (decide (y48.2 ≠ y32))) || (decide (y56.2 ≠ y32))) || (decide (y64.2 ≠ y32))) == false)) && ((decide (y32 ≠ 0)) == true)) (phX (.bool (y40.1 || y48.1))), phG (((true && ((((((decide (y72 ≠ y32)) || (decide (y40.2 ≠ y32))) || (decide (y48.2 ≠ y32))) || (decide (y56.2 ≠ y32))) || (decide (y64.2 ≠ y32))) == false)) && ((decide (y32 ≠ 0)) == true)) && ((y40.1 || y48.1) == false)) (phX (.int .i64 y56.1)), phG (((true && ((((((decide (y72 ≠ y32)) || (decide (y40.2 ≠ y32))) || (decide (y48.2 ≠ y32))) || (decide (y56.2 ≠ y32))) || (decide (y64.2 ≠ y32))) == false)) && ((decide (y32 ≠ 0)) == true)) && ((y40.1 || y48.1) == false)) (phX (.bool (decide (y56.1 ≠ 0)))), phG ((true && ((((((decide (y72 ≠ y32)) || (decide (y40.2 ≠ y32))) || (decide (y48.2 ≠ y32))) || (decide (y56.2 ≠ y32))) || (decide (y64.2 ≠ y32))) == false)) && ((decide (y32 ≠ 0)) == true)) (phX (.bool ((y40.1 || y48.1) || (decide (y56.1 ≠ 0))))), phG ((true && ((((((decide (y72 ≠ y32)) || (decide (y40.2 ≠ y32))) || (decide (y48.2 ≠ y32))) || (decide (y56.2 ≠ y32))) || (decide (y64.2 ≠ y32))) == false)) && ((decide (y32 ≠ 0)) == true)) (phX (.bool ((y40.1 || y48.1) || (decide (y56.1 ≠ 0))))), phG (((true && ((((((decide (y72 ≠ y32)) || (decide (y40.2 ≠ y32))) || (decide (y48.2 ≠ y32))) || (decide (y56.2 ≠ y32))) || (decide (y64.2 ≠ y32))) == false)) && ((decide (y32 ≠ 0)) == true)) && (((y40.1 || y48.1) || (decide (y56.1 ≠ 0))) == false)) (phX v70), phG (((true && ((((((decide (y72 ≠ y32)) || (decide (y40.2 ≠ y32))) || (decide (y48.2 ≠ y32))) || (decide (y56.2 ≠ y32))) || (decide (y64.2 ≠ y32))) == false)) && ((decide (y32 ≠ 0)) == true)) && (((y40.1 || y48.1) || (decide (y56.1 ≠ 0))) == false)) (phX (.int .i64 (↑y64.1.length : Int))), phG (((true && ((((((decide (y72 ≠ y32)) || (decide (y40.2 ≠ y32))) || (decide (y48.2 ≠ y32))) || (decide (y56.2 ≠ y32))) || (decide (y64.2 ≠ y32))) == false)) && ((decide (y32 ≠ 0)) == true)) && (((y40.1 || y48.1) || (decide (y56.1 ≠ 0))) == false)) (phX (.bool (decide ((↑y64.1.length : Int) ≠ 0)))), phG ((true && ((((((decide (y72 ≠ y32)) || (decide (y40.2 ≠ y32))) || (decide (y48.2 ≠ y32))) || (decide (y56.2 ≠ y32))) || (decide (y64.2 ≠ y32))) == false)) && ((decide (y32 ≠ 0)) == true)) (phX (.bool (((y40.1 || y48.1) || (decide (y56.1 ≠ 0))) || (decide ((↑y64.1.length : Int) ≠ 0))))), phG (true && ((((((decide (y72 ≠ y32)) || (decide (y40.2 ≠ y32))) || (decide (y48.2 ≠ y32))) || (decide (y56.2 ≠ y32))) || (decide (y64.2 ≠ y32))) == false)) (phX (.bool ((decide (y32 ≠ 0)) && (((y40.1 || y48.1) || (decide (y56.1 ≠ 0))) || (decide ((↑y64.1.length : Int) ≠ 0)))))), phX (.bool ((((((decide (y72 ≠ y32)) || (decide (y40.2 ≠ y32))) || (decide (y48.2 ≠ y32))) || (decide (y56.2 ≠ y32))) || (decide (y64.2 ≠ y32))) || ((decide (y32 ≠ 0)) && (((y40.1 || y48.1) || (decide (y56.1 ≠ 0))) || (decide ((↑y64.1.length : Int) ≠ 0)))))), phX (.bool ((((((decide (y72 ≠ y32)) || (decide (y40.2 ≠ y32))) || (decide (y48.2 ≠ y32))) || (decide (y56.2 ≠ y32))) || (decide (y64.2 ≠ y32))) || ((decide (y32 ≠ 0)) && (((y40.1 || y48.1) || (decide (y56.1 ≠ 0))) || (decide ((↑y64.1.length : Int) ≠ 0)))))), phG (true && (((((((decide (y72 ≠ y32)) || (decide (y40.2 ≠ y32))) || (decide (y48.2 ≠ y32))) || (decide (y56.2 ≠ y32))) || (decide (y64.2 ≠ y32))) || ((decide (y32 ≠ 0)) && (((y40.1 || y48.1) || (decide (y56.1 ≠ 0))) || (decide ((↑y64.1.length : Int) ≠ 0))))) == false)) (phR (kMach false false) m), phG (true && (((((((decide (y72 ≠ y32)) || (decide (y40.2 ≠ y32))) || (decide (y48.2 ≠ y32))) || (decide (y56.2 ≠ y32))) || (decide (y64.2 ≠ y32))) || ((decide (y32 ≠ 0)) && (((y40.1 || y48.1) || (decide (y56.1 ≠ 0))) || (decide ((↑y64.1.length : Int) ≠ 0))))) == false)) (phR (kMach false false) m), phG (true && (((((((decide (y72 ≠ y32)) || (decide (y40.2 ≠ y32))) || (decide (y48.2 ≠ y32))) || (decide (y56.2 ≠ y32))) || (decide (y64.2 ≠ y32))) || ((decide (y32 ≠ 0)) && (((y40.1 || y48.1) || (decide (y56.1 ≠ 0))) || (decide ((↑y64.1.length : Int) ≠ 0))))) == false)) (phX (.bool (y74.getD default))), phG (true && (((((((decide (y72 ≠ y32)) || (decide (y40.2 ≠ y32))) || (decide (y48.2 ≠ y32))) || (decide (y56.2 ≠ y32))) || (decide (y64.2 ≠ y32))) || ((decide (y32 ≠ 0)) && (((y40.1 || y48.1) || (decide (y56.1 ≠ 0))) || (decide ((↑y64.1.length : Int) ≠ 0))))) == false)) (phX (.int .i64 y32)), phG (true && (((((((decide (y72 ≠ y32)) || (decide (y40.2 ≠ y32))) || (decide (y48.2 ≠ y32))) || (decide (y56.2 ≠ y32))) || (decide (y64.2 ≠ y32))) || ((decide (y32 ≠ 0)) && (((y40.1 || y48.1) || (decide (y56.1 ≠ 0))) || (decide ((↑y64.1.length : Int) ≠ 0))))) == false)) (phX (.bool (decide (y32 = 0)))), phG (true && (((((((decide (y72 ≠ y32)) || (decide (y40.2 ≠ y32))) || (decide (y48.2 ≠ y32))) || (decide (y56.2 ≠ y32))) || (decide (y64.2 ≠ y32))) || ((decide (y32 ≠ 0)) && (((y40.1 || y48.1) || (decide (y56.1 ≠ 0))) || (decide ((↑y64.1.length : Int) ≠ 0))))) == false)) (phX (.bool (decide ((y74.getD default) ≠ (decide (y32 = 0)))))), phX (.bool (((((((decide (y72 ≠ y32)) || (decide (y40.2 ≠ y32))) || (decide (y48.2 ≠ y32))) || (decide (y56.2 ≠ y32))) || (decide (y64.2 ≠ y32))) || ((decide (y32 ≠ 0)) && (((y40.1 || y48.1) || (decide (y56.1 ≠ 0))) || (decide ((↑y64.1.length : Int) ≠ 0))))) || (decide ((y74.getD default) ≠ (decide (y32 = 0))))))] (by kernel_rfl) (by kernel_rfl) (monoOk_of ⟨mono_r, mono_x, mono_x, mono_x, mono_x, (mono_g mono_x), (mono_g mono_x), (mono_g mono_x), mono_x, mono_x, (mono_g mono_x), (mono_g mono_x), (mono_g mono_x), mono_x, mono_x, (mono_g mono_x), (mono_g mono_x), (mono_g mono_x), mono_x, mono_x, (mono_g mono_x), (mono_g mono_x), (mono_g mono_x), mono_x, mono_x, (mono_g mono_x), (mono_g mono_x), (mono_g mono_x), (mono_g mono_x), (mono_g mono_x), (mono_g mono_x), (mono_g mono_x), (mono_g mono_x), (mono_g mono_x), (mono_g mono_x), (mono_g mono_x), (mono_g mono_x), (mono_g mono_x), (mono_g mono_x), (mono_g mono_x), (mono_g mono_x), (mono_g mono_x), mono_x, mono_x, (mono_g mono_r), (mono_g mono_r), (mono_g mono_x), (mono_g mono_x), (mono_g mono_x), (mono_g mono_x), mono_x, trivial⟩) ⟨?_, ?_, ?_, ?_, ?_, ?_, ?_, ?_, ?_, ?_, ?_, ?_, ?_, ?_, ?_, ?_, ?_, ?_, ?_, ?_, ?_, ?_, ?_, ?_, ?_, ?_, ?_, ?_, ?_, ?_, ?_, ?_, ?_, ?_, ?_, ?_, ?_, ?_, ?_, ?_, ?_, ?_, ?_, ?_, ?_, ?_, ?_, ?_, ?_, ?_, ?_, trivial⟩ fun R76 le77 => ?_
    · intro l R0q hle ha hd
      have a3 : l 3 = v1 := ha 3 rfl
      exact gstep_plain rfl rfl rfl (ph_loadR ty27 a3 ((h2.mono ((((((le8.trans le12).trans le37).trans le45).trans le53).trans le61).trans le69)).mono hle))
    · intro l R1q hle ha hd
      obtain ⟨d0, _⟩ := hd
      have f57 : phR (kMach false false) m (l 57) R1q := d0 rfl
      exact gstep_plain rfl rfl rfl (ph_callP en31 rfl (c_machines_Check f57 c73) (fun _ _ h => h))
    · intro l R2q hle ha hd
      have a7 : l 7 = (.int .i64 y32) := ha 7 rfl
      exact gstep_plain rfl rfl rfl (ph_val (val_move a7))
    · intro l R3q hle ha hd
      obtain ⟨d0, d1, _⟩ := hd
      have f58 : l 58 = (.int .i64 y72) := d0 rfl
      have f59 : l 59 = (.int .i64 y32) := d1 rfl
      exact gstep_plain rfl rfl rfl (ph_val (val_neq f58 f59))
    · intro l R4q hle ha hd
      obtain ⟨d0, d1, _⟩ := hd
      have f60 : l 60 = (.bool (decide (y72 ≠ y32))) := d0 rfl
      exact gstep_plain rfl rfl rfl (ph_val (val_move f60))
    · intro l R5q hle ha hd
      obtain ⟨d0, _⟩ := hd
      have a9 : l 9 = (.int .i64 y40.2) := ha 9 rfl
      exact gstep_guard (Gj := true) (Bj := decide (y72 ≠ y32)) rfl rfl rfl (gtrue (d0 rfl)) rfl (fun hG hB => ph_val (val_move a9))
    · intro l R6q hle ha hd
      obtain ⟨d0, _⟩ := hd
      have a7 : l 7 = (.int .i64 y32) := ha 7 rfl
      exact gstep_guard (Gj := true) (Bj := decide (y72 ≠ y32)) rfl rfl rfl (gtrue (d0 rfl)) rfl (fun hG hB => ph_val (val_move a7))
    · intro l R7q hle ha hd
      obtain ⟨d0, d1, d2, _⟩ := hd
      have f62g : phG (true && ((decide (y72 ≠ y32)) == false)) (phX (.int .i64 y40.2)) (l 62) R7q := d0 rfl
      have f63g : phG (true && ((decide (y72 ≠ y32)) == false)) (phX (.int .i64 y32)) (l 63) R7q := d1 rfl
      exact gstep_guard (Gj := true) (Bj := decide (y72 ≠ y32)) rfl rfl rfl (gtrue (d2 rfl)) rfl (fun hG hB => ph_val (val_neq (show l 62 = (.int .i64 y40.2) from f62g.1 (gandT rfl hB)) (show l 63 = (.int .i64 y32) from f63g.1 (gandT rfl hB))))
    · intro l R8q hle ha hd
      obtain ⟨d0, d1, _⟩ := hd
      have f61 : l 61 = (.bool (decide (y72 ≠ y32))) := d0 rfl
      have f64g : phG (true && ((decide (y72 ≠ y32)) == false)) (phX (.bool (decide (y40.2 ≠ y32)))) (l 64) R8q := d1 rfl
      exact gstep_plain rfl rfl rfl (ph_val (val_or f61 rfl (fun hb => (show l 64 = (.bool (decide (y40.2 ≠ y32))) from f64g.1 (gandT rfl hb)))))
    · intro l R9q hle ha hd
      obtain ⟨d0, d1, _⟩ := hd
      have f65 : l 65 = (.bool ((decide (y72 ≠ y32)) || (decide (y40.2 ≠ y32)))) := d0 rfl
      exact gstep_plain rfl rfl rfl (ph_val (val_move f65))
    · intro l R10q hle ha hd
      obtain ⟨d0, _⟩ := hd
      have a11 : l 11 = (.int .i64 y48.2) := ha 11 rfl
      exact gstep_guard (Gj := true) (Bj := (decide (y72 ≠ y32)) || (decide (y40.2 ≠ y32))) rfl rfl rfl (gtrue (d0 rfl)) rfl (fun hG hB => ph_val (val_move a11))
    · intro l R11q hle ha hd
      obtain ⟨d0, _⟩ := hd
      have a7 : l 7 = (.int .i64 y32) := ha 7 rfl
      exact gstep_guard (Gj := true) (Bj := (decide (y72 ≠ y32)) || (decide (y40.2 ≠ y32))) rfl rfl rfl (gtrue (d0 rfl)) rfl (fun hG hB => ph_val (val_move a7))
    · intro l R12q hle ha hd
      obtain ⟨d0, d1, d2, _⟩ := hd
      have f67g : phG (true && (((decide (y72 ≠ y32)) || (decide (y40.2 ≠ y32))) == false)) (phX (.int .i64 y48.2)) (l 67) R12q := d0 rfl
      have f68g : phG (true && (((decide (y72 ≠ y32)) || (decide (y40.2 ≠ y32))) == false)) (phX (.int .i64 y32)) (l 68) R12q := d1 rfl
      exact gstep_guard (Gj := true) (Bj := (decide (y72 ≠ y32)) || (decide (y40.2 ≠ y32))) rfl rfl rfl (gtrue (d2 rfl)) rfl (fun hG hB => ph_val (val_neq (show l 67 = (.int .i64 y48.2) from f67g.1 (gandT rfl hB)) (show l 68 = (.int .i64 y32) from f68g.1 (gandT rfl hB))))
    · intro l R13q hle ha hd
      obtain ⟨d0, d1, _⟩ := hd
      have f66 : l 66 = (.bool ((decide (y72 ≠ y32)) || (decide (y40.2 ≠ y32)))) := d0 rfl
      have f69g : phG (true && (((decide (y72 ≠ y32)) || (decide (y40.2 ≠ y32))) == false)) (phX (.bool (decide (y48.2 ≠ y32)))) (l 69) R13q := d1 rfl
      exact gstep_plain rfl rfl rfl (ph_val (val_or f66 rfl (fun hb => (show l 69 = (.bool (decide (y48.2 ≠ y32))) from f69g.1 (gandT rfl hb)))))
    · intro l R14q hle ha hd
      obtain ⟨d0, d1, _⟩ := hd
      have f70 : l 70 = (.bool (((decide (y72 ≠ y32)) || (decide (y40.2 ≠ y32))) || (decide (y48.2 ≠ y32)))) := d0 rfl
      exact gstep_plain rfl rfl rfl (ph_val (val_move f70))
    · intro l R15q hle ha hd
      obtain ⟨d0, _⟩ := hd
      have a13 : l 13 = (.int .i64 y56.2) := ha 13 rfl
      exact gstep_guard (Gj := true) (Bj := ((decide (y72 ≠ y32)) || (decide (y40.2 ≠ y32))) || (decide (y48.2 ≠ y32))) rfl rfl rfl (gtrue (d0 rfl)) rfl (fun hG hB => ph_val (val_move a13))
    · intro l R16q hle ha hd
      obtain ⟨d0, _⟩ := hd
      have a7 : l 7 = (.int .i64 y32) := ha 7 rfl
      exact gstep_guard (Gj := true) (Bj := ((decide (y72 ≠ y32)) || (decide (y40.2 ≠ y32))) || (decide (y48.2 ≠ y32))) rfl rfl rfl (gtrue (d0 rfl)) rfl (fun hG hB => ph_val (val_move a7))
    · intro l R17q hle ha hd
      obtain ⟨d0, d1, d2, _⟩ := hd
      have f72g : phG (true && ((((decide (y72 ≠ y32)) || (decide (y40.2 ≠ y32))) || (decide (y48.2 ≠ y32))) == false)) (phX (.int .i64 y56.2)) (l 72) R17q := d0 rfl
      have f73g : phG (true && ((((decide (y72 ≠ y32)) || (decide (y40.2 ≠ y32))) || (decide (y48.2 ≠ y32))) == false)) (phX (.int .i64 y32)) (l 73) R17q := d1 rfl
      exact gstep_guard (Gj := true) (Bj := ((decide (y72 ≠ y32)) || (decide (y40.2 ≠ y32))) || (decide (y48.2 ≠ y32))) rfl rfl rfl (gtrue (d2 rfl)) rfl (fun hG hB => ph_val (val_neq (show l 72 = (.int .i64 y56.2) from f72g.1 (gandT rfl hB)) (show l 73 = (.int .i64 y32) from f73g.1 (gandT rfl hB))))
    · intro l R18q hle ha hd
      obtain ⟨d0, d1, _⟩ := hd
      have f71 : l 71 = (.bool (((decide (y72 ≠ y32)) || (decide (y40.2 ≠ y32))) || (decide (y48.2 ≠ y32)))) := d0 rfl
      have f74g : phG (true && ((((decide (y72 ≠ y32)) || (decide (y40.2 ≠ y32))) || (decide (y48.2 ≠ y32))) == false)) (phX (.bool (decide (y56.2 ≠ y32)))) (l 74) R18q := d1 rfl
      exact gstep_plain rfl rfl rfl (ph_val (val_or f71 rfl (fun hb => (show l 74 = (.bool (decide (y56.2 ≠ y32))) from f74g.1 (gandT rfl hb)))))
    · intro l R19q hle ha hd
      obtain ⟨d0, d1, _⟩ := hd
      have f75 : l 75 = (.bool ((((decide (y72 ≠ y32)) || (decide (y40.2 ≠ y32))) || (decide (y48.2 ≠ y32))) || (decide (y56.2 ≠ y32)))) := d0 rfl
      exact gstep_plain rfl rfl rfl (ph_val (val_move f75))
    · intro l R20q hle ha hd
      obtain ⟨d0, _⟩ := hd
      have a15 : l 15 = (.int .i64 y64.2) := ha 15 rfl
      exact gstep_guard (Gj := true) (Bj := (((decide (y72 ≠ y32)) || (decide (y40.2 ≠ y32))) || (decide (y48.2 ≠ y32))) || (decide (y56.2 ≠ y32))) rfl rfl rfl (gtrue (d0 rfl)) rfl (fun hG hB => ph_val (val_move a15))
    · intro l R21q hle ha hd
      obtain ⟨d0, _⟩ := hd
      have a7 : l 7 = (.int .i64 y32) := ha 7 rfl
      exact gstep_guard (Gj := true) (Bj := (((decide (y72 ≠ y32)) || (decide (y40.2 ≠ y32))) || (decide (y48.2 ≠ y32))) || (decide (y56.2 ≠ y32))) rfl rfl rfl (gtrue (d0 rfl)) rfl (fun hG hB => ph_val (val_move a7))
    · intro l R22q hle ha hd
      obtain ⟨d0, d1, d2, _⟩ := hd
      have f77g : phG (true && (((((decide (y72 ≠ y32)) || (decide (y40.2 ≠ y32))) || (decide (y48.2 ≠ y32))) || (decide (y56.2 ≠ y32))) == false)) (phX (.int .i64 y64.2)) (l 77) R22q := d0 rfl
      have f78g : phG (true && (((((decide (y72 ≠ y32)) || (decide (y40.2 ≠ y32))) || (decide (y48.2 ≠ y32))) || (decide (y56.2 ≠ y32))) == false)) (phX (.int .i64 y32)) (l 78) R22q := d1 rfl
      exact gstep_guard (Gj := true) (Bj := (((decide (y72 ≠ y32)) || (decide (y40.2 ≠ y32))) || (decide (y48.2 ≠ y32))) || (decide (y56.2 ≠ y32))) rfl rfl rfl (gtrue (d2 rfl)) rfl (fun hG hB => ph_val (val_neq (show l 77 = (.int .i64 y64.2) from f77g.1 (gandT rfl hB)) (show l 78 = (.int .i64 y32) from f78g.1 (gandT rfl hB))))
    · intro l R23q hle ha hd
      obtain ⟨d0, d1, _⟩ := hd
      have f76 : l 76 = (.bool ((((decide (y72 ≠ y32)) || (decide (y40.2 ≠ y32))) || (decide (y48.2 ≠ y32))) || (decide (y56.2 ≠ y32)))) := d0 rfl
      have f79g : phG (true && (((((decide (y72 ≠ y32)) || (decide (y40.2 ≠ y32))) || (decide (y48.2 ≠ y32))) || (decide (y56.2 ≠ y32))) == false)) (phX (.bool (decide (y64.2 ≠ y32)))) (l 79) R23q := d1 rfl
      exact gstep_plain rfl rfl rfl (ph_val (val_or f76 rfl (fun hb => (show l 79 = (.bool (decide (y64.2 ≠ y32))) from f79g.1 (gandT rfl hb)))))
    · intro l R24q hle ha hd
      obtain ⟨d0, d1, _⟩ := hd
      have f80 : l 80 = (.bool (((((decide (y72 ≠ y32)) || (decide (y40.2 ≠ y32))) || (decide (y48.2 ≠ y32))) || (decide (y56.2 ≠ y32))) || (decide (y64.2 ≠ y32)))) := d0 rfl
      exact gstep_plain rfl rfl rfl (ph_val (val_move f80))
    · intro l R25q hle ha hd
      obtain ⟨d0, _⟩ := hd
      have a7 : l 7 = (.int .i64 y32) := ha 7 rfl
      exact gstep_guard (Gj := true) (Bj := ((((decide (y72 ≠ y32)) || (decide (y40.2 ≠ y32))) || (decide (y48.2 ≠ y32))) || (decide (y56.2 ≠ y32))) || (decide (y64.2 ≠ y32))) rfl rfl rfl (gtrue (d0 rfl)) rfl (fun hG hB => ph_val (val_move a7))
    · intro l R26q hle ha hd
      obtain ⟨d0, d1, _⟩ := hd
      have f82g : phG (true && ((((((decide (y72 ≠ y32)) || (decide (y40.2 ≠ y32))) || (decide (y48.2 ≠ y32))) || (decide (y56.2 ≠ y32))) || (decide (y64.2 ≠ y32))) == false)) (phX (.int .i64 y32)) (l 82) R26q := d0 rfl
      exact gstep_guard (Gj := true) (Bj := ((((decide (y72 ≠ y32)) || (decide (y40.2 ≠ y32))) || (decide (y48.2 ≠ y32))) || (decide (y56.2 ≠ y32))) || (decide (y64.2 ≠ y32))) rfl rfl rfl (gtrue (d1 rfl)) rfl (fun hG hB => ph_val (val_neq (show l 82 = (.int .i64 y32) from f82g.1 (gandT rfl hB)) rfl))
    · intro l R27q hle ha hd
      obtain ⟨d0, d1, d2, _⟩ := hd
      have f83g : phG (true && ((((((decide (y72 ≠ y32)) || (decide (y40.2 ≠ y32))) || (decide (y48.2 ≠ y32))) || (decide (y56.2 ≠ y32))) || (decide (y64.2 ≠ y32))) == false)) (phX (.bool (decide (y32 ≠ 0)))) (l 83) R27q := d0 rfl
      exact gstep_guard (Gj := true) (Bj := ((((decide (y72 ≠ y32)) || (decide (y40.2 ≠ y32))) || (decide (y48.2 ≠ y32))) || (decide (y56.2 ≠ y32))) || (decide (y64.2 ≠ y32))) rfl rfl rfl (gtrue (d1 rfl)) rfl (fun hG hB => ph_val (val_move (show l 83 = (.bool (decide (y32 ≠ 0))) from f83g.1 (gandT rfl hB))))
    · intro l R28q hle ha hd
      obtain ⟨d0, _⟩ := hd
      have a8 : l 8 = (.bool y40.1) := ha 8 rfl
      exact gstep_guard (Gj := (true && ((((((decide (y72 ≠ y32)) || (decide (y40.2 ≠ y32))) || (decide (y48.2 ≠ y32))) || (decide (y56.2 ≠ y32))) || (decide (y64.2 ≠ y32))) == false))) (Bj := decide (y32 ≠ 0)) rfl rfl rfl (d0 rfl) rfl (fun hG hB => ph_val (val_move a8))
    · intro l R29q hle ha hd
      obtain ⟨d0, d1, d2, _⟩ := hd
      have f85g : phG ((true && ((((((decide (y72 ≠ y32)) || (decide (y40.2 ≠ y32))) || (decide (y48.2 ≠ y32))) || (decide (y56.2 ≠ y32))) || (decide (y64.2 ≠ y32))) == false)) && ((decide (y32 ≠ 0)) == true)) (phX (.bool y40.1)) (l 85) R29q := d0 rfl
      exact gstep_guard (Gj := (true && ((((((decide (y72 ≠ y32)) || (decide (y40.2 ≠ y32))) || (decide (y48.2 ≠ y32))) || (decide (y56.2 ≠ y32))) || (decide (y64.2 ≠ y32))) == false))) (Bj := decide (y32 ≠ 0)) rfl rfl rfl (d1 rfl) rfl (fun hG hB => ph_val (val_move (show l 85 = (.bool y40.1) from f85g.1 (gandT hG hB))))
    · intro l R30q hle ha hd
      obtain ⟨d0, _⟩ := hd
      have a10 : l 10 = (.bool y48.1) := ha 10 rfl
      exact gstep_guard (Gj := ((true && ((((((decide (y72 ≠ y32)) || (decide (y40.2 ≠ y32))) || (decide (y48.2 ≠ y32))) || (decide (y56.2 ≠ y32))) || (decide (y64.2 ≠ y32))) == false)) && ((decide (y32 ≠ 0)) == true))) (Bj := y40.1) rfl rfl rfl (d0 rfl) rfl (fun hG hB => ph_val (val_move a10))
    · intro l R31q hle ha hd
      obtain ⟨d0, d1, d2, _⟩ := hd
      have f86g : phG ((true && ((((((decide (y72 ≠ y32)) || (decide (y40.2 ≠ y32))) || (decide (y48.2 ≠ y32))) || (decide (y56.2 ≠ y32))) || (decide (y64.2 ≠ y32))) == false)) && ((decide (y32 ≠ 0)) == true)) (phX (.bool y40.1)) (l 86) R31q := d0 rfl
      have f87g : phG (((true && ((((((decide (y72 ≠ y32)) || (decide (y40.2 ≠ y32))) || (decide (y48.2 ≠ y32))) || (decide (y56.2 ≠ y32))) || (decide (y64.2 ≠ y32))) == false)) && ((decide (y32 ≠ 0)) == true)) && (y40.1 == false)) (phX (.bool y48.1)) (l 87) R31q := d1 rfl
      exact gstep_guard (Gj := (true && ((((((decide (y72 ≠ y32)) || (decide (y40.2 ≠ y32))) || (decide (y48.2 ≠ y32))) || (decide (y56.2 ≠ y32))) || (decide (y64.2 ≠ y32))) == false))) (Bj := decide (y32 ≠ 0)) rfl rfl rfl (d2 rfl) rfl (fun hG hB => ph_val (val_or (show l 86 = (.bool y40.1) from f86g.1 (gandT hG hB)) rfl (fun hb => (show l 87 = (.bool y48.1) from f87g.1 (gandT (gandT hG hB) hb)))))
    · intro l R32q hle ha hd
      obtain ⟨d0, d1, d2, _⟩ := hd
      have f88g : phG ((true && ((((((decide (y72 ≠ y32)) || (decide (y40.2 ≠ y32))) || (decide (y48.2 ≠ y32))) || (decide (y56.2 ≠ y32))) || (decide (y64.2 ≠ y32))) == false)) && ((decide (y32 ≠ 0)) == true)) (phX (.bool (y40.1 || y48.1))) (l 88) R32q := d0 rfl
      exact gstep_guard (Gj := (true && ((((((decide (y72 ≠ y32)) || (decide (y40.2 ≠ y32))) || (decide (y48.2 ≠ y32))) || (decide (y56.2 ≠ y32))) || (decide (y64.2 ≠ y32))) == false))) (Bj := decide (y32 ≠ 0)) rfl rfl rfl (d2 rfl) rfl (fun hG hB => ph_val (val_move (show l 88 = (.bool (y40.1 || y48.1)) from f88g.1 (gandT hG hB))))
    · intro l R33q hle ha hd
      obtain ⟨d0, _⟩ := hd
      have a12 : l 12 = (.int .i64 y56.1) := ha 12 rfl
      exact gstep_guard (Gj := ((true && ((((((decide (y72 ≠ y32)) || (decide (y40.2 ≠ y32))) || (decide (y48.2 ≠ y32))) || (decide (y56.2 ≠ y32))) || (decide (y64.2 ≠ y32))) == false)) && ((decide (y32 ≠ 0)) == true))) (Bj := y40.1 || y48.1) rfl rfl rfl (d0 rfl) rfl (fun hG hB => ph_val (val_move a12))
    · intro l R34q hle ha hd
      obtain ⟨d0, d1, _⟩ := hd
      have f90g : phG (((true && ((((((decide (y72 ≠ y32)) || (decide (y40.2 ≠ y32))) || (decide (y48.2 ≠ y32))) || (decide (y56.2 ≠ y32))) || (decide (y64.2 ≠ y32))) == false)) && ((decide (y32 ≠ 0)) == true)) && ((y40.1 || y48.1) == false)) (phX (.int .i64 y56.1)) (l 90) R34q := d0 rfl
      exact gstep_guard (Gj := ((true && ((((((decide (y72 ≠ y32)) || (decide (y40.2 ≠ y32))) || (decide (y48.2 ≠ y32))) || (decide (y56.2 ≠ y32))) || (decide (y64.2 ≠ y32))) == false)) && ((decide (y32 ≠ 0)) == true))) (Bj := y40.1 || y48.1) rfl rfl rfl (d1 rfl) rfl (fun hG hB => ph_val (val_neq (show l 90 = (.int .i64 y56.1) from f90g.1 (gandT hG hB)) rfl))
    · intro l R35q hle ha hd
      obtain ⟨d0, d1, d2, _⟩ := hd
      have f89g : phG ((true && ((((((decide (y72 ≠ y32)) || (decide (y40.2 ≠ y32))) || (decide (y48.2 ≠ y32))) || (decide (y56.2 ≠ y32))) || (decide (y64.2 ≠ y32))) == false)) && ((decide (y32 ≠ 0)) == true)) (phX (.bool (y40.1 || y48.1))) (l 89) R35q := d0 rfl
      have f91g : phG (((true && ((((((decide (y72 ≠ y32)) || (decide (y40.2 ≠ y32))) || (decide (y48.2 ≠ y32))) || (decide (y56.2 ≠ y32))) || (decide (y64.2 ≠ y32))) == false)) && ((decide (y32 ≠ 0)) == true)) && ((y40.1 || y48.1) == false)) (phX (.bool (decide (y56.1 ≠ 0)))) (l 91) R35q := d1 rfl
      exact gstep_guard (Gj := (true && ((((((decide (y72 ≠ y32)) || (decide (y40.2 ≠ y32))) || (decide (y48.2 ≠ y32))) || (decide (y56.2 ≠ y32))) || (decide (y64.2 ≠ y32))) == false))) (Bj := decide (y32 ≠ 0)) rfl rfl rfl (d2 rfl) rfl (fun hG hB => ph_val (val_or (show l 89 = (.bool (y40.1 || y48.1)) from f89g.1 (gandT hG hB)) rfl (fun hb => (show l 91 = (.bool (decide (y56.1 ≠ 0))) from f91g.1 (gandT (gandT hG hB) hb)))))
    · intro l R36q hle ha hd
      obtain ⟨d0, d1, d2, _⟩ := hd
      have f92g : phG ((true && ((((((decide (y72 ≠ y32)) || (decide (y40.2 ≠ y32))) || (decide (y48.2 ≠ y32))) || (decide (y56.2 ≠ y32))) || (decide (y64.2 ≠ y32))) == false)) && ((decide (y32 ≠ 0)) == true)) (phX (.bool ((y40.1 || y48.1) || (decide (y56.1 ≠ 0))))) (l 92) R36q := d0 rfl
      exact gstep_guard (Gj := (true && ((((((decide (y72 ≠ y32)) || (decide (y40.2 ≠ y32))) || (decide (y48.2 ≠ y32))) || (decide (y56.2 ≠ y32))) || (decide (y64.2 ≠ y32))) == false))) (Bj := decide (y32 ≠ 0)) rfl rfl rfl (d2 rfl) rfl (fun hG hB => ph_val (val_move (show l 92 = (.bool ((y40.1 || y48.1) || (decide (y56.1 ≠ 0)))) from f92g.1 (gandT hG hB))))
    · intro l R37q hle ha hd
      obtain ⟨d0, _⟩ := hd
      have a14 : l 14 = v70 := ha 14 rfl
      exact gstep_guard (Gj := ((true && ((((((decide (y72 ≠ y32)) || (decide (y40.2 ≠ y32))) || (decide (y48.2 ≠ y32))) || (decide (y56.2 ≠ y32))) || (decide (y64.2 ≠ y32))) == false)) && ((decide (y32 ≠ 0)) == true))) (Bj := (y40.1 || y48.1) || (decide (y56.1 ≠ 0))) rfl rfl rfl (d0 rfl) rfl (fun hG hB => ph_val (val_move a14))
    · intro l R38q hle ha hd
      obtain ⟨d0, d1, _⟩ := hd
      have f94g : phG (((true && ((((((decide (y72 ≠ y32)) || (decide (y40.2 ≠ y32))) || (decide (y48.2 ≠ y32))) || (decide (y56.2 ≠ y32))) || (decide (y64.2 ≠ y32))) == false)) && ((decide (y32 ≠ 0)) == true)) && (((y40.1 || y48.1) || (decide (y56.1 ≠ 0))) == false)) (phX v70) (l 94) R38q := d0 rfl
      exact gstep_guard (Gj := ((true && ((((((decide (y72 ≠ y32)) || (decide (y40.2 ≠ y32))) || (decide (y48.2 ≠ y32))) || (decide (y56.2 ≠ y32))) || (decide (y64.2 ≠ y32))) == false)) && ((decide (y32 ≠ 0)) == true))) (Bj := (y40.1 || y48.1) || (decide (y56.1 ≠ 0))) rfl rfl rfl (d1 rfl) rfl (fun hG hB => ph_val (val_lenR rfl Try.underlying34 (show l 94 = v70 from f94g.1 (gandT hG hB)) (sl_s (h71.mono hle))))
    · intro l R39q hle ha hd
      obtain ⟨d0, d1, _⟩ := hd
      have f95g : phG (((true && ((((((decide (y72 ≠ y32)) || (decide (y40.2 ≠ y32))) || (decide (y48.2 ≠ y32))) || (decide (y56.2 ≠ y32))) || (decide (y64.2 ≠ y32))) == false)) && ((decide (y32 ≠ 0)) == true)) && (((y40.1 || y48.1) || (decide (y56.1 ≠ 0))) == false)) (phX (.int .i64 (↑y64.1.length : Int))) (l 95) R39q := d0 rfl
      exact gstep_guard (Gj := ((true && ((((((decide (y72 ≠ y32)) || (decide (y40.2 ≠ y32))) || (decide (y48.2 ≠ y32))) || (decide (y56.2 ≠ y32))) || (decide (y64.2 ≠ y32))) == false)) && ((decide (y32 ≠ 0)) == true))) (Bj := (y40.1 || y48.1) || (decide (y56.1 ≠ 0))) rfl rfl rfl (d1 rfl) rfl (fun hG hB => ph_val (val_neq (show l 95 = (.int .i64 (↑y64.1.length : Int)) from f95g.1 (gandT hG hB)) rfl))
    · intro l R40q hle ha hd
      obtain ⟨d0, d1, d2, _⟩ := hd
      have f93g : phG ((true && ((((((decide (y72 ≠ y32)) || (decide (y40.2 ≠ y32))) || (decide (y48.2 ≠ y32))) || (decide (y56.2 ≠ y32))) || (decide (y64.2 ≠ y32))) == false)) && ((decide (y32 ≠ 0)) == true)) (phX (.bool ((y40.1 || y48.1) || (decide (y56.1 ≠ 0))))) (l 93) R40q := d0 rfl
      have f96g : phG (((true && ((((((decide (y72 ≠ y32)) || (decide (y40.2 ≠ y32))) || (decide (y48.2 ≠ y32))) || (decide (y56.2 ≠ y32))) || (decide (y64.2 ≠ y32))) == false)) && ((decide (y32 ≠ 0)) == true)) && (((y40.1 || y48.1) || (decide (y56.1 ≠ 0))) == false)) (phX (.bool (decide ((↑y64.1.length : Int) ≠ 0)))) (l 96) R40q := d1 rfl
      exact gstep_guard (Gj := (true && ((((((decide (y72 ≠ y32)) || (decide (y40.2 ≠ y32))) || (decide (y48.2 ≠ y32))) || (decide (y56.2 ≠ y32))) || (decide (y64.2 ≠ y32))) == false))) (Bj := decide (y32 ≠ 0)) rfl rfl rfl (d2 rfl) rfl (fun hG hB => ph_val (val_or (show l 93 = (.bool ((y40.1 || y48.1) || (decide (y56.1 ≠ 0)))) from f93g.1 (gandT hG hB)) rfl (fun hb => (show l 96 = (.bool (decide ((↑y64.1.length : Int) ≠ 0))) from f96g.1 (gandT (gandT hG hB) hb)))))
    · intro l R41q hle ha hd
      obtain ⟨d0, d1, d2, _⟩ := hd
      have f84g : phG (true && ((((((decide (y72 ≠ y32)) || (decide (y40.2 ≠ y32))) || (decide (y48.2 ≠ y32))) || (decide (y56.2 ≠ y32))) || (decide (y64.2 ≠ y32))) == false)) (phX (.bool (decide (y32 ≠ 0)))) (l 84) R41q := d0 rfl
      have f97g : phG ((true && ((((((decide (y72 ≠ y32)) || (decide (y40.2 ≠ y32))) || (decide (y48.2 ≠ y32))) || (decide (y56.2 ≠ y32))) || (decide (y64.2 ≠ y32))) == false)) && ((decide (y32 ≠ 0)) == true)) (phX (.bool (((y40.1 || y48.1) || (decide (y56.1 ≠ 0))) || (decide ((↑y64.1.length : Int) ≠ 0))))) (l 97) R41q := d1 rfl
      exact gstep_guard (Gj := true) (Bj := ((((decide (y72 ≠ y32)) || (decide (y40.2 ≠ y32))) || (decide (y48.2 ≠ y32))) || (decide (y56.2 ≠ y32))) || (decide (y64.2 ≠ y32))) rfl rfl rfl (gtrue (d2 rfl)) rfl (fun hG hB => ph_val (val_and (show l 84 = (.bool (decide (y32 ≠ 0))) from f84g.1 (gandT rfl hB)) (fun hb => (show l 97 = (.bool (((y40.1 || y48.1) || (decide (y56.1 ≠ 0))) || (decide ((↑y64.1.length : Int) ≠ 0)))) from f97g.1 (gandT (gandT rfl hB) hb))) rfl))
    · intro l R42q hle ha hd
      obtain ⟨d0, d1, _⟩ := hd
      have f81 : l 81 = (.bool (((((decide (y72 ≠ y32)) || (decide (y40.2 ≠ y32))) || (decide (y48.2 ≠ y32))) || (decide (y56.2 ≠ y32))) || (decide (y64.2 ≠ y32)))) := d0 rfl
      have f98g : phG (true && ((((((decide (y72 ≠ y32)) || (decide (y40.2 ≠ y32))) || (decide (y48.2 ≠ y32))) || (decide (y56.2 ≠ y32))) || (decide (y64.2 ≠ y32))) == false)) (phX (.bool ((decide (y32 ≠ 0)) && (((y40.1 || y48.1) || (decide (y56.1 ≠ 0))) || (decide ((↑y64.1.length : Int) ≠ 0)))))) (l 98) R42q := d1 rfl
      exact gstep_plain rfl rfl rfl (ph_val (val_or f81 rfl (fun hb => (show l 98 = (.bool ((decide (y32 ≠ 0)) && (((y40.1 || y48.1) || (decide (y56.1 ≠ 0))) || (decide ((↑y64.1.length : Int) ≠ 0))))) from f98g.1 (gandT rfl hb)))))
    · intro l R43q hle ha hd
      obtain ⟨d0, d1, _⟩ := hd
      have f99 : l 99 = (.bool ((((((decide (y72 ≠ y32)) || (decide (y40.2 ≠ y32))) || (decide (y48.2 ≠ y32))) || (decide (y56.2 ≠ y32))) || (decide (y64.2 ≠ y32))) || ((decide (y32 ≠ 0)) && (((y40.1 || y48.1) || (decide (y56.1 ≠ 0))) || (decide ((↑y64.1.length : Int) ≠ 0)))))) := d0 rfl
      exact gstep_plain rfl rfl rfl (ph_val (val_move f99))
    · intro l R44q hle ha hd
      obtain ⟨d0, _⟩ := hd
      have a3 : l 3 = v1 := ha 3 rfl
      exact gstep_guard (Gj := true) (Bj := (((((decide (y72 ≠ y32)) || (decide (y40.2 ≠ y32))) || (decide (y48.2 ≠ y32))) || (decide (y56.2 ≠ y32))) || (decide (y64.2 ≠ y32))) || ((decide (y32 ≠ 0)) && (((y40.1 || y48.1) || (decide (y56.1 ≠ 0))) || (decide ((↑y64.1.length : Int) ≠ 0))))) rfl rfl rfl (gtrue (d0 rfl)) rfl (fun hG hB => ph_loadR ty27 a3 ((h2.mono ((((((le8.trans le12).trans le37).trans le45).trans le53).trans le61).trans le69)).mono hle))
    · intro l R45q hle ha hd
      obtain ⟨d0, _⟩ := hd
      have a3 : l 3 = v1 := ha 3 rfl
      exact gstep_guard (Gj := true) (Bj := (((((decide (y72 ≠ y32)) || (decide (y40.2 ≠ y32))) || (decide (y48.2 ≠ y32))) || (decide (y56.2 ≠ y32))) || (decide (y64.2 ≠ y32))) || ((decide (y32 ≠ 0)) && (((y40.1 || y48.1) || (decide (y56.1 ≠ 0))) || (decide ((↑y64.1.length : Int) ≠ 0))))) rfl rfl rfl (gtrue (d0 rfl)) rfl (fun hG hB => ph_loadR ty27 a3 ((h2.mono ((((((le8.trans le12).trans le37).trans le45).trans le53).trans le61).trans le69)).mono hle))
    · intro l R46q hle ha hd
      obtain ⟨d0, d1, d2, d3, _⟩ := hd
      have f101g : phG (true && (((((((decide (y72 ≠ y32)) || (decide (y40.2 ≠ y32))) || (decide (y48.2 ≠ y32))) || (decide (y56.2 ≠ y32))) || (decide (y64.2 ≠ y32))) || ((decide (y32 ≠ 0)) && (((y40.1 || y48.1) || (decide (y56.1 ≠ 0))) || (decide ((↑y64.1.length : Int) ≠ 0))))) == false)) (phR (kMach false false) m) (l 101) R46q := d0 rfl
      have f102g : phG (true && (((((((decide (y72 ≠ y32)) || (decide (y40.2 ≠ y32))) || (decide (y48.2 ≠ y32))) || (decide (y56.2 ≠ y32))) || (decide (y64.2 ≠ y32))) || ((decide (y32 ≠ 0)) && (((y40.1 || y48.1) || (decide (y56.1 ≠ 0))) || (decide ((↑y64.1.length : Int) ≠ 0))))) == false)) (phR (kMach false false) m) (l 102) R46q := d1 rfl
      exact gstep_guard (Gj := true) (Bj := (((((decide (y72 ≠ y32)) || (decide (y40.2 ≠ y32))) || (decide (y48.2 ≠ y32))) || (decide (y56.2 ≠ y32))) || (decide (y64.2 ≠ y32))) || ((decide (y32 ≠ 0)) && (((y40.1 || y48.1) || (decide (y56.1 ≠ 0))) || (decide ((↑y64.1.length : Int) ≠ 0))))) rfl rfl rfl (gtrue (d2 rfl)) rfl (fun hG hB => ph_callP en32 rfl (c_machines_Same (f101g.1 (gandT rfl hB)) (f102g.1 (gandT rfl hB)) (gop_def c75 (gandT hG hB))) (fun _ _ h => h))
    · intro l R47q hle ha hd
      obtain ⟨d0, _⟩ := hd
      have a7 : l 7 = (.int .i64 y32) := ha 7 rfl
      exact gstep_guard (Gj := true) (Bj := (((((decide (y72 ≠ y32)) || (decide (y40.2 ≠ y32))) || (decide (y48.2 ≠ y32))) || (decide (y56.2 ≠ y32))) || (decide (y64.2 ≠ y32))) || ((decide (y32 ≠ 0)) && (((y40.1 || y48.1) || (decide (y56.1 ≠ 0))) || (decide ((↑y64.1.length : Int) ≠ 0))))) rfl rfl rfl (gtrue (d0 rfl)) rfl (fun hG hB => ph_val (val_move a7))
    · intro l R48q hle ha hd
      obtain ⟨d0, d1, _⟩ := hd
      have f104g : phG (true && (((((((decide (y72 ≠ y32)) || (decide (y40.2 ≠ y32))) || (decide (y48.2 ≠ y32))) || (decide (y56.2 ≠ y32))) || (decide (y64.2 ≠ y32))) || ((decide (y32 ≠ 0)) && (((y40.1 || y48.1) || (decide (y56.1 ≠ 0))) || (decide ((↑y64.1.length : Int) ≠ 0))))) == false)) (phX (.int .i64 y32)) (l 104) R48q := d0 rfl
      exact gstep_guard (Gj := true) (Bj := (((((decide (y72 ≠ y32)) || (decide (y40.2 ≠ y32))) || (decide (y48.2 ≠ y32))) || (decide (y56.2 ≠ y32))) || (decide (y64.2 ≠ y32))) || ((decide (y32 ≠ 0)) && (((y40.1 || y48.1) || (decide (y56.1 ≠ 0))) || (decide ((↑y64.1.length : Int) ≠ 0))))) rfl rfl rfl (gtrue (d1 rfl)) rfl (fun hG hB => ph_val (val_eql (show l 104 = (.int .i64 y32) from f104g.1 (gandT rfl hB)) rfl))
    · intro l R49q hle ha hd
      obtain ⟨d0, d1, d2, _⟩ := hd
      have f103g : phG (true && (((((((decide (y72 ≠ y32)) || (decide (y40.2 ≠ y32))) || (decide (y48.2 ≠ y32))) || (decide (y56.2 ≠ y32))) || (decide (y64.2 ≠ y32))) || ((decide (y32 ≠ 0)) && (((y40.1 || y48.1) || (decide (y56.1 ≠ 0))) || (decide ((↑y64.1.length : Int) ≠ 0))))) == false)) (phX (.bool (y74.getD default))) (l 103) R49q := d0 rfl
      have f105g : phG (true && (((((((decide (y72 ≠ y32)) || (decide (y40.2 ≠ y32))) || (decide (y48.2 ≠ y32))) || (decide (y56.2 ≠ y32))) || (decide (y64.2 ≠ y32))) || ((decide (y32 ≠ 0)) && (((y40.1 || y48.1) || (decide (y56.1 ≠ 0))) || (decide ((↑y64.1.length : Int) ≠ 0))))) == false)) (phX (.bool (decide (y32 = 0)))) (l 105) R49q := d1 rfl
      exact gstep_guard (Gj := true) (Bj := (((((decide (y72 ≠ y32)) || (decide (y40.2 ≠ y32))) || (decide (y48.2 ≠ y32))) || (decide (y56.2 ≠ y32))) || (decide (y64.2 ≠ y32))) || ((decide (y32 ≠ 0)) && (((y40.1 || y48.1) || (decide (y56.1 ≠ 0))) || (decide ((↑y64.1.length : Int) ≠ 0))))) rfl rfl rfl (gtrue (d2 rfl)) rfl (fun hG hB => ph_val (val_neqB Try.underlying4 (show l 103 = (.bool (y74.getD default)) from f103g.1 (gandT rfl hB)) (show l 105 = (.bool (decide (y32 = 0))) from f105g.1 (gandT rfl hB))))
    · intro l R50q hle ha hd
      obtain ⟨d0, d1, _⟩ := hd
      have f100 : l 100 = (.bool ((((((decide (y72 ≠ y32)) || (decide (y40.2 ≠ y32))) || (decide (y48.2 ≠ y32))) || (decide (y56.2 ≠ y32))) || (decide (y64.2 ≠ y32))) || ((decide (y32 ≠ 0)) && (((y40.1 || y48.1) || (decide (y56.1 ≠ 0))) || (decide ((↑y64.1.length : Int) ≠ 0)))))) := d0 rfl
      have f106g : phG (true && (((((((decide (y72 ≠ y32)) || (decide (y40.2 ≠ y32))) || (decide (y48.2 ≠ y32))) || (decide (y56.2 ≠ y32))) || (decide (y64.2 ≠ y32))) || ((decide (y32 ≠ 0)) && (((y40.1 || y48.1) || (decide (y56.1 ≠ 0))) || (decide ((↑y64.1.length : Int) ≠ 0))))) == false)) (phX (.bool (decide ((y74.getD default) ≠ (decide (y32 = 0)))))) (l 106) R50q := d1 rfl
      exact gstep_plain rfl rfl rfl (ph_val (val_or f100 rfl (fun hb => (show l 106 = (.bool (decide ((y74.getD default) ≠ (decide (y32 = 0))))) from f106g.1 (gandT rfl hb)))))
    intro v78 h79
    intro v80 h81
    intro v82 h83
    intro v84 h85
    intro v86 h87
    intro v88 h89
    intro v90 h91
    intro v92 h93
    intro v94 h95
    intro v96 h97
    intro v98 h99
    intro v100 h101
    intro v102 h103
    intro v104 h105
    intro v106 h107
    intro v108 h109
    intro v110 h111
    intro v112 h113
    intro v114 h115
    intro v116 h117
    intro v118 h119
    intro v120 h121
    intro v122 h123
    intro v124 h125
    intro v126 h127
    intro v128 h129
    intro v130 h131
    intro v132 h133
    intro v134 h135
    intro v136 h137
    intro v138 h139
    intro v140 h141
    intro v142 h143
    intro v144 h145
    intro v146 h147
    intro v148 h149
    intro v150 h151
    intro v152 h153
    intro v154 h155
    intro v156 h157
    intro v158 h159
    intro v160 h161
    intro v162 h163
    intro v164 h165
    intro v166 h167
    intro v168 h169
    intro v170 h171
    intro v172 h173
    intro v174 h175
    intro v176 h177
    intro v178 h179
    obtain rfl := Eq.symm h81
    obtain rfl := Eq.symm h83
    obtain rfl := Eq.symm h85
    obtain rfl := Eq.symm h87
    obtain rfl := Eq.symm h95
    obtain rfl := Eq.symm h97
    obtain rfl := Eq.symm h105
    obtain rfl := Eq.symm h107
    obtain rfl := Eq.symm h115
    obtain rfl := Eq.symm h117
    obtain rfl := Eq.symm h125
    obtain rfl := Eq.symm h127
    obtain rfl := Eq.symm h163
    obtain rfl := Eq.symm h165
    obtain rfl := Eq.symm h179
    refine wo_nil ?_
    refine wg_cond rfl (fun e180 => ?_) (fun e180 => ?_)
    · replace hd0 := sel_t e180 hd0; clear e180
      refine wg_seq ?_
      refine wg_region ?_
      refine wo_v rfl (val_assign (v := (.bool false)) rfl) ?_
      refine wo_nil ?_
      refine wg_ret ?_
      obtain rfl := Option.some.inj hd0
      refine body_end (D := []) (J := []) (rs := [.tmp 6]) (vs := [(.bool false)]) ((((((((le4.trans le8).trans le12).trans le37).trans le45).trans le53).trans le61).trans le69).trans le77) rfl rfl ⟨rfl, trivial⟩ ?_
      exact ⟨rfl, rfl⟩
    · replace hd0 := sel_f e180 hd0; clear e180
      refine wg_skip ?_
      refine wg_seq ?_
      refine wg_drawn 6 [] [phP (tInt .i64) place.1, phX (.int .i64 place.1), phP (tInt .i64) place.2, phX (.int .i64 place.2), phX (.int .i64 place.1), phX (.int .i64 place.2)] mixed (by kernel_rfl) (monoOk_of ⟨mono_p, mono_x, mono_p, mono_x, mono_x, mono_x, trivial⟩) ⟨?_, ?_, ?_, ?_, ?_, ?_, trivial⟩ fun R181 le182 => ?_
      · intro l R0q hle ha hd
        have a4 : l 4 = v5 := ha 4 rfl
        exact gstep_plain rfl rfl rfl (ph_indexAR (i := 0) ar42 pt_A2tInti640 a4 ((h6.mono ((((((le12.trans le37).trans le45).trans le53).trans le61).trans le69).trans le77)).mono hle) rfl (by decide))
      · intro l R1q hle ha hd
        obtain ⟨d0, _⟩ := hd
        have f108 : phP (tInt .i64) place.1 (l 108) R1q := d0 rfl
        exact gstep_plain rfl rfl rfl (ph_exact (ph_loadR ty3 rfl f108) (fun _ _ h => vrep_int.1 h))
      · intro l R2q hle ha hd
        obtain ⟨d0, _⟩ := hd
        have a4 : l 4 = v5 := ha 4 rfl
        exact gstep_plain rfl rfl rfl (ph_indexAR (i := 1) ar42 pt_A2tInti641 a4 ((h6.mono ((((((le12.trans le37).trans le45).trans le53).trans le61).trans le69).trans le77)).mono hle) rfl (by decide))
      · intro l R3q hle ha hd
        obtain ⟨d0, d1, _⟩ := hd
        have f110 : phP (tInt .i64) place.2 (l 110) R3q := d0 rfl
        exact gstep_plain rfl rfl rfl (ph_exact (ph_loadR ty3 rfl f110) (fun _ _ h => vrep_int.1 h))
      · intro l R4q hle ha hd
        obtain ⟨d0, d1, d2, d3, d4, _⟩ := hd
        have f109 : l 109 = (.int .i64 place.1) := d0 rfl
        exact gstep_plain rfl rfl rfl (ph_val (val_assign f109))
      · intro l R5q hle ha hd
        obtain ⟨d0, d1, d2, d3, d4, d5, d6, _⟩ := hd
        have f111 : l 111 = (.int .i64 place.2) := d0 rfl
        exact gstep_plain rfl rfl rfl (ph_val (val_assign f111))
      intro v183 h184
      intro v185 h186
      intro v187 h188
      intro v189 h190
      intro v191 h192
      intro v193 h194
      obtain rfl := Eq.symm h186
      obtain rfl := Eq.symm h190
      obtain rfl := Eq.symm h192
      obtain rfl := Eq.symm h194
      refine wo_nil ?_
      replace hd0 := bd_some hd0; obtain ⟨o195, hd1, hd0⟩ := hd0
      refine wg_meet (γ := Int) true [112, 113, 114, 115, 116, 117, 118, 119, 120, 121, 122, 123, 124, 7] (fun g => [(7, (.int .i64 g))]) (fun g => [] ++ A) (fun g R => o195 = g ∧ True) ?_ ?_
      ·
        refine wg_seq ?_
        refine wg_guarded 13 [] [phX (.int .i64 y32), phX (.bool (decide (y32 = 0))), phX (.bool (decide (y32 = 0))), phG (true && ((decide (y32 = 0)) == true)) (phX (.int .i64 place.1)), phG (true && ((decide (y32 = 0)) == true)) (phX (.bool (decide (place.1 < 0)))), phG (true && ((decide (y32 = 0)) == true)) (phX (.bool (decide (place.1 < 0)))), phG ((true && ((decide (y32 = 0)) == true)) && ((decide (place.1 < 0)) == false)) (phX (.int .i64 place.1)), phG ((true && ((decide (y32 = 0)) == true)) && ((decide (place.1 < 0)) == false)) (phP (tSl false (tSl false kEdge)) m.rows), phG ((true && ((decide (y32 = 0)) == true)) && ((decide (place.1 < 0)) == false)) (phR (tSl false (tSl false kEdge)) m.rows), phG ((true && ((decide (y32 = 0)) == true)) && ((decide (place.1 < 0)) == false)) (phX (.int .i64 (↑m.rows.length : Int))), phG ((true && ((decide (y32 = 0)) == true)) && ((decide (place.1 < 0)) == false)) (phX (.bool (decide ((↑m.rows.length : Int) ≤ place.1)))), phG (true && ((decide (y32 = 0)) == true)) (phX (.bool ((decide (place.1 < 0)) || (decide ((↑m.rows.length : Int) ≤ place.1))))), phX (.bool ((decide (y32 = 0)) && ((decide (place.1 < 0)) || (decide ((↑m.rows.length : Int) ≤ place.1)))))] (by kernel_rfl) (by kernel_rfl) (monoOk_of ⟨mono_x, mono_x, mono_x, (mono_g mono_x), (mono_g mono_x), (mono_g mono_x), (mono_g mono_x), (mono_g mono_p), (mono_g mono_r), (mono_g mono_x), (mono_g mono_x), (mono_g mono_x), mono_x, trivial⟩) ⟨?_, ?_, ?_, ?_, ?_, ?_, ?_, ?_, ?_, ?_, ?_, ?_, ?_, trivial⟩ fun R198 le199 => ?_
        · intro l R0q hle ha hd
          have a7 : l 7 = (.int .i64 y32) := ha 7 rfl
          exact gstep_plain rfl rfl rfl (ph_val (val_move a7))
        · intro l R1q hle ha hd
          obtain ⟨d0, _⟩ := hd
          have f112 : l 112 = (.int .i64 y32) := d0 rfl
          exact gstep_plain rfl rfl rfl (ph_val (val_eql f112 rfl))
        · intro l R2q hle ha hd
          obtain ⟨d0, _⟩ := hd
          have f113 : l 113 = (.bool (decide (y32 = 0))) := d0 rfl
          exact gstep_plain rfl rfl rfl (ph_val (val_move f113))
        · intro l R3q hle ha hd
          obtain ⟨d0, _⟩ := hd
          have a16 : l 16 = (.int .i64 place.1) := ha 16 rfl
          exact gstep_guard (Gj := true) (Bj := decide (y32 = 0)) rfl rfl rfl (gtrue (d0 rfl)) rfl (fun hG hB => ph_val (val_move a16))
        · intro l R4q hle ha hd
          obtain ⟨d0, d1, _⟩ := hd
          have f115g : phG (true && ((decide (y32 = 0)) == true)) (phX (.int .i64 place.1)) (l 115) R4q := d0 rfl
          exact gstep_guard (Gj := true) (Bj := decide (y32 = 0)) rfl rfl rfl (gtrue (d1 rfl)) rfl (fun hG hB => ph_val (val_lss (show l 115 = (.int .i64 place.1) from f115g.1 (gandT rfl hB)) rfl))
        · intro l R5q hle ha hd
          obtain ⟨d0, d1, d2, _⟩ := hd
          have f116g : phG (true && ((decide (y32 = 0)) == true)) (phX (.bool (decide (place.1 < 0)))) (l 116) R5q := d0 rfl
          exact gstep_guard (Gj := true) (Bj := decide (y32 = 0)) rfl rfl rfl (gtrue (d1 rfl)) rfl (fun hG hB => ph_val (val_move (show l 116 = (.bool (decide (place.1 < 0))) from f116g.1 (gandT rfl hB))))
        · intro l R6q hle ha hd
          obtain ⟨d0, _⟩ := hd
          have a16 : l 16 = (.int .i64 place.1) := ha 16 rfl
          exact gstep_guard (Gj := (true && ((decide (y32 = 0)) == true))) (Bj := decide (place.1 < 0)) rfl rfl rfl (d0 rfl) rfl (fun hG hB => ph_val (val_move a16))
        · intro l R7q hle ha hd
          obtain ⟨d0, _⟩ := hd
          have a3 : l 3 = v1 := ha 3 rfl
          exact gstep_guard (Gj := (true && ((decide (y32 = 0)) == true))) (Bj := decide (place.1 < 0)) rfl rfl rfl (d0 rfl) rfl (fun hG hB => ph_fieldR fd27_2 pt_Mach2 a3 ((h2.mono ((((((((le8.trans le12).trans le37).trans le45).trans le53).trans le61).trans le69).trans le77).trans le182)).mono hle))
        · intro l R8q hle ha hd
          obtain ⟨d0, d1, _⟩ := hd
          have f119g : phG ((true && ((decide (y32 = 0)) == true)) && ((decide (place.1 < 0)) == false)) (phP (tSl false (tSl false kEdge)) m.rows) (l 119) R8q := d0 rfl
          exact gstep_guard (Gj := (true && ((decide (y32 = 0)) == true))) (Bj := decide (place.1 < 0)) rfl rfl rfl (d1 rfl) rfl (fun hG hB => ph_loadR ty25 rfl (f119g.1 (gandT hG hB)))
        · intro l R9q hle ha hd
          obtain ⟨d0, d1, _⟩ := hd
          have f120g : phG ((true && ((decide (y32 = 0)) == true)) && ((decide (place.1 < 0)) == false)) (phR (tSl false (tSl false kEdge)) m.rows) (l 120) R9q := d0 rfl
          exact gstep_guard (Gj := (true && ((decide (y32 = 0)) == true))) (Bj := decide (place.1 < 0)) rfl rfl rfl (d1 rfl) rfl (fun hG hB => ph_val (val_lenR rfl Try.underlying25 rfl (sl_s (f120g.1 (gandT hG hB)))))
        · intro l R10q hle ha hd
          obtain ⟨d0, d1, d2, _⟩ := hd
          have f118g : phG ((true && ((decide (y32 = 0)) == true)) && ((decide (place.1 < 0)) == false)) (phX (.int .i64 place.1)) (l 118) R10q := d0 rfl
          have f121g : phG ((true && ((decide (y32 = 0)) == true)) && ((decide (place.1 < 0)) == false)) (phX (.int .i64 (↑m.rows.length : Int))) (l 121) R10q := d1 rfl
          exact gstep_guard (Gj := (true && ((decide (y32 = 0)) == true))) (Bj := decide (place.1 < 0)) rfl rfl rfl (d2 rfl) rfl (fun hG hB => ph_val (val_geq (show l 118 = (.int .i64 place.1) from f118g.1 (gandT hG hB)) (show l 121 = (.int .i64 (↑m.rows.length : Int)) from f121g.1 (gandT hG hB))))
        · intro l R11q hle ha hd
          obtain ⟨d0, d1, d2, _⟩ := hd
          have f117g : phG (true && ((decide (y32 = 0)) == true)) (phX (.bool (decide (place.1 < 0)))) (l 117) R11q := d0 rfl
          have f122g : phG ((true && ((decide (y32 = 0)) == true)) && ((decide (place.1 < 0)) == false)) (phX (.bool (decide ((↑m.rows.length : Int) ≤ place.1)))) (l 122) R11q := d1 rfl
          exact gstep_guard (Gj := true) (Bj := decide (y32 = 0)) rfl rfl rfl (gtrue (d2 rfl)) rfl (fun hG hB => ph_val (val_or (show l 117 = (.bool (decide (place.1 < 0))) from f117g.1 (gandT rfl hB)) rfl (fun hb => (show l 122 = (.bool (decide ((↑m.rows.length : Int) ≤ place.1))) from f122g.1 (gandT (gandT rfl hB) hb)))))
        · intro l R12q hle ha hd
          obtain ⟨d0, d1, _⟩ := hd
          have f114 : l 114 = (.bool (decide (y32 = 0))) := d0 rfl
          have f123g : phG (true && ((decide (y32 = 0)) == true)) (phX (.bool ((decide (place.1 < 0)) || (decide ((↑m.rows.length : Int) ≤ place.1))))) (l 123) R12q := d1 rfl
          exact gstep_plain rfl rfl rfl (ph_val (val_and f114 (fun hb => (show l 123 = (.bool ((decide (place.1 < 0)) || (decide ((↑m.rows.length : Int) ≤ place.1)))) from f123g.1 (gandT rfl hb))) rfl))
        intro v200 h201
        intro v202 h203
        intro v204 h205
        intro v206 h207
        intro v208 h209
        intro v210 h211
        intro v212 h213
        intro v214 h215
        intro v216 h217
        intro v218 h219
        intro v220 h221
        intro v222 h223
        intro v224 h225
        obtain rfl := Eq.symm h201
        obtain rfl := Eq.symm h203
        obtain rfl := Eq.symm h205
        obtain rfl := Eq.symm h225
        refine wo_nil ?_
        refine wg_cond rfl (fun e226 => ?_) (fun e226 => ?_)
        · replace hd1 := sel_t e226 hd1; clear e226
          refine wg_region ?_
          refine wo_v rfl (val_assign (v := (.int .i64 1)) rfl) ?_
          refine wo_nil ?_
          exact ⟨(fun _ => rfl), le199, (by repeat (first | exact off_self | refine off_upd rfl ?_ | refine off_setl rfl ?_ | refine off_mask_sub rfl ?_)), 1, ⟨rfl, trivial⟩, ⟨[], List.Perm.refl _⟩, (Option.some.inj hd1).symm, trivial⟩
        · replace hd1 := sel_f e226 hd1; clear e226
          refine wg_skip ?_
          exact ⟨(fun _ => rfl), le199, (by repeat (first | exact off_self | refine off_upd rfl ?_ | refine off_setl rfl ?_ | refine off_mask_sub rfl ?_)), y32, ⟨rfl, trivial⟩, ⟨[], List.Perm.refl _⟩, (Option.some.inj hd1).symm, trivial⟩
      ·
        rintro o195 j227 D228 R196 hD229 le197 ⟨rfl, _⟩
        obtain rfl := hD229 rfl
        refine wg_seq ?_
        refine wg_region ?_
        refine wo_loadR rfl ty27 rfl (h2.mono (((((((((le8.trans le12).trans le37).trans le45).trans le53).trans le61).trans le69).trans le77).trans le182).trans le197)) fun v230 h231 => ?_
        refine wo_v rfl (val_move (v := (.int .i64 place.1)) rfl) ?_
        refine wo_v rfl (val_move (v := (.int .i64 place.2)) rfl) ?_
        replace hd0 := bd_some hd0; obtain ⟨y232, c233, hd0⟩ := hd0
        refine wo_callP rfl en26 rfl (c_machines_Step h231 c233) fun v234 R236 le237 h235 => ?_
        obtain rfl := h235
        refine wo_v rfl (val_move (v := (.tuple #[(enc_Edge y232.1), (.int .i64 y232.2)])) rfl) ?_
        refine wo_v rfl (val_extract rfl rfl) ?_
        refine wo_v rfl (val_extract rfl rfl) ?_
        refine wo_alloc rfl za40 fun b238 => ?_
        refine wo_store (i := 0) (vs := [(.int .i64 y232.1.to), (.int .i64 y232.1.out)]) sz40 rfl rfl rfl rfl rfl rfl (one_cons rfl (one_cons rfl one_nil)) ?_
        refine wo_v rfl (val_assign (v := (.int .i64 y232.2)) rfl) ?_
        refine wo_nil ?_
        refine wg_seq ?_
        replace hd0 := bd_some hd0; obtain ⟨y240, c241, hd0⟩ := hd0
        replace hd0 := bd_some hd0; obtain ⟨y242, c243, hd0⟩ := hd0
        refine wg_free [6, 8, 9] [(fun es => phR (kMach false false) m), (fun es => phX (.int .i64 place.1)), (fun es => phX (.int .i64 place.2)), (fun es => phX (enc_Edge y240)), (fun es => (fun v R => ∃ u0, v = .tuple #[u0, (.int .i64 y242.2)] ∧ VRep (kMach true true) R u0 y242.1)), (fun es => (fun v R => ∃ u0, v = .tuple #[u0, (.int .i64 y242.2)] ∧ VRep (kMach true true) R u0 y242.1)), (fun es => phR (kMach true true) y242.1), (fun es => phX (.int .i64 y242.2)), (fun es => (fun v _ => v = .pointer (some ⟨blkOf v, 0, none⟩))), (fun es => (fun _ _ => True)), (fun es => phX (.int .i64 y242.2))] (fun fl es R O => (fl = [false, false, false] ∧ O.Perm ([box b238 [(.int .i64 y232.1.to), (.int .i64 y232.1.out)] 40] ++ A) ∧ True) ∨ (fl = [true, false, false] ∧ O.Perm ([box b238 [(.int .i64 y232.1.to), (.int .i64 y232.1.out)] 40] ++ A) ∧ True) ∨ (fl = [false, true, false] ∧ O.Perm ([box b238 [(.int .i64 y232.1.to), (.int .i64 y232.1.out)] 40, box (blkOf (es.getD 1 undef)) [(.int .i64 0), (.int .i64 0), (.slice none 0 0)] 27] ++ A) ∧ True) ∨ (fl = [true, true, false] ∧ O.Perm ([box b238 [(.int .i64 y232.1.to), (.int .i64 y232.1.out)] 40, box (blkOf (es.getD 1 undef)) [(.int .i64 0), (.int .i64 0), (.slice none 0 0)] 27] ++ A) ∧ True) ∨ (fl = [true, true, true] ∧ O.Perm ([box b238 [(.int .i64 y232.1.to), (.int .i64 y232.1.out)] 40, box (blkOf (es.getD 1 undef)) [(.int .i64 y242.1.inputs), (.int .i64 y242.1.outputs), (aggC (es.getD 0 undef) 2)] 27] ++ A) ∧ True)) mixed (by kernel_rfl) ⟨(monoE_of mono_r), (monoE_of mono_x), (monoE_of mono_x), (monoE_of mono_x), (monoE_of (fun _ _ _ le ⟨u0, e, k0⟩ => ⟨u0, e, k0.mono le⟩)), (monoE_of (fun _ _ _ le ⟨u0, e, k0⟩ => ⟨u0, e, k0.mono le⟩)), (monoE_of mono_r), (monoE_of mono_x), (fun _ _ _ _ _ h => h), (fun _ _ _ _ _ h => h), (monoE_of mono_x), trivial⟩ (by
            rintro fl es R R' O hle (⟨rfl, hp, _⟩ | ⟨rfl, hp, _⟩ | ⟨rfl, hp, _⟩ | ⟨rfl, hp, _⟩ | ⟨rfl, hp, _⟩)
            · exact (.inl ⟨rfl, hp, trivial⟩)
            · exact (.inr (.inl ⟨rfl, hp, trivial⟩))
            · exact (.inr (.inr (.inl ⟨rfl, hp, trivial⟩)))
            · exact (.inr (.inr (.inr (.inl ⟨rfl, hp, trivial⟩))))
            · exact (.inr (.inr (.inr (.inr ⟨rfl, hp, trivial⟩))))) ⟨(fun _ _ _ _ _ h => h), (fun _ _ _ _ _ h => h), (fun _ _ _ _ _ h => h), (fun _ _ _ _ _ h => h), (fun _ _ _ _ _ h => h), (fun _ _ _ _ _ h => h), (fun _ _ _ _ _ h => h), (fun _ _ _ _ _ h => h), (fun _ _ _ _ _ h => h), (fun _ _ _ _ _ h => h), (fun _ _ _ _ _ h => h), trivial⟩ (fun es => .inl ⟨rfl, (List.Perm.refl _), trivial⟩) ⟨?_, ?_, ?_, ?_, ?_, ?_, ?_, ?_, ?_, ?_, ?_, trivial⟩ fun R245 le246 => ?_
        · intro l R0q fl O hle ha hd hk hW
          have a3 : l 3 = v1 := ha 3 rfl
          exact ph_loadR ty27 a3 ((h2.mono ((((((((((le8.trans le12).trans le37).trans le45).trans le53).trans le61).trans le69).trans le77).trans le182).trans le197).trans le237)).mono hle)
        · intro l R1q fl O hle ha hd hk hW
          have a16 : l 16 = (.int .i64 place.1) := ha 16 rfl
          exact ph_val (val_move a16)
        · intro l R2q fl O hle ha hd hk hW
          have a17 : l 17 = (.int .i64 place.2) := ha 17 rfl
          exact ph_val (val_move a17)
        · intro l R3q fl O hle ha hd hk hW
          exact ph_callP en18 rfl (c_gauntletlaw04_edge  c241) (fun _ _ h => h)
        · intro l R4q fl O hle ha hd hk hW
          obtain ⟨d0, d1, d2, d3, d4, _⟩ := hd
          have f133 : phR (kMach false false) m (l 133) R4q := d0 rfl
          have f134 : l 134 = (.int .i64 place.1) := d1 rfl
          have f135 : l 135 = (.int .i64 place.2) := d2 rfl
          have f136 : l 136 = (enc_Edge y240) := d3 rfl
          exact ph_callP en33 (by simp only [List.map, ev, f134, f135, f136] <;> rfl) (c_machines_With f133 c243) (fun _ _ h => h)
        · intro l R5q fl O hle ha hd hk hW
          obtain ⟨d0, _⟩ := hd
          have f137 : (fun v R => ∃ u0, v = .tuple #[u0, (.int .i64 y242.2)] ∧ VRep (kMach true true) R u0 y242.1) (l 137) R5q := d0 rfl
          exact Val.phi (val_move rfl) f137
        · intro l R6q fl O hle ha hd hk hf hW
          obtain ⟨d0, _⟩ := hd
          have f132 : (fun v R => ∃ u0, v = .tuple #[u0, (.int .i64 y242.2)] ∧ VRep (kMach true true) R u0 y242.1) (l 132) R6q := d0 rfl
          obtain ⟨u0, ht, hu0⟩ := f132
          rcases hW with ⟨rfl, hp, _⟩ | ⟨rfl, hp, _⟩ | ⟨rfl, hp, _⟩ | ⟨rfl, hp, _⟩ | ⟨rfl, hp, _⟩
          · refine Eff.mono (ph_rep (val_extract ht rfl) hu0) ?_
            rintro v R' O' hle' ⟨rfl, hv⟩
            exact ⟨hv, .inr (.inl ⟨rfl, hp, trivial⟩)⟩
          · cases hf
          · refine Eff.mono (ph_rep (val_extract ht rfl) hu0) ?_
            rintro v R' O' hle' ⟨rfl, hv⟩
            exact ⟨hv, .inr (.inr (.inr (.inl ⟨rfl, hp, trivial⟩)))⟩
          · cases hf
          · cases hf
        · intro l R7q fl O hle ha hd hk hW
          obtain ⟨d0, d1, _⟩ := hd
          have f132 : (fun v R => ∃ u0, v = .tuple #[u0, (.int .i64 y242.2)] ∧ VRep (kMach true true) R u0 y242.1) (l 132) R7q := d0 rfl
          obtain ⟨u0, ht, hu0⟩ := f132
          exact ph_val (val_extract ht rfl)
        · intro l R8q fl O hle ha hd hk hf hW
          rcases hW with ⟨rfl, hp, _⟩ | ⟨rfl, hp, _⟩ | ⟨rfl, hp, _⟩ | ⟨rfl, hp, _⟩ | ⟨rfl, hp, _⟩
          · refine eff_perm hp ?_
            refine Eff.mono (eff_alloc za27) ?_
            rintro v R' O' hle' ⟨rfl, b, rfl, rfl⟩
            exact ⟨rfl, .inr (.inr (.inl ⟨rfl, (pk 1 rfl (pk 0 rfl (List.Perm.refl _))), trivial⟩))⟩
          · refine eff_perm hp ?_
            refine Eff.mono (eff_alloc za27) ?_
            rintro v R' O' hle' ⟨rfl, b, rfl, rfl⟩
            exact ⟨rfl, .inr (.inr (.inr (.inl ⟨rfl, (pk 1 rfl (pk 0 rfl (List.Perm.refl _))), trivial⟩)))⟩
          · cases hf
          · cases hf
          · cases hf
        · intro l R9q fl O hle ha hd hk hf hW
          obtain ⟨d0, d1, d2, d3, d4, d5, d6, d7, d8, d9, d10, d11, _⟩ := hd
          have f20 : l 20 = (.pointer (some ⟨(blkOf (l 20)), 0, none⟩)) := d0 rfl
          have f138 : phR (kMach true true) y242.1 (l 138) R9q := d1 rfl
          rcases hW with ⟨rfl, hp, _⟩ | ⟨rfl, hp, _⟩ | ⟨rfl, hp, _⟩ | ⟨rfl, hp, _⟩ | ⟨rfl, hp, _⟩
          · exact kn_no hk (by kernel_rfl)
          · exact kn_no hk (by kernel_rfl)
          · exact kn_no hk (by kernel_rfl)
          · refine eff_perm hp ?_
            obtain ⟨hx1, hy0⟩ := acell_Mach f138
            refine Eff.mono (eff_store (i := 1) (vs := [(.int .i64 y242.1.inputs), (.int .i64 y242.1.outputs), (aggC (l 138) 2)]) sz27 f20 rfl (congrArg Value.cells hx1) rfl rfl (Nat.le_of_ble_eq_true rfl) (one_cons rfl (one_cons rfl (one_cons (sl_one hy0) one_nil)))) ?_
            rintro v R' O' hle' ⟨_, rfl, rfl⟩
            exact ⟨trivial, .inr (.inr (.inr (.inr ⟨rfl, (List.Perm.refl _), trivial⟩)))⟩
          · cases hf
        · intro l R10q fl O hle ha hd hk hW
          obtain ⟨d0, d1, d2, d3, d4, d5, d6, d7, d8, d9, d10, d11, _⟩ := hd
          have f139 : l 139 = (.int .i64 y242.2) := d0 rfl
          exact ph_val (val_assign f139)
        intro v247
        intro v248
        intro v249
        intro v250
        intro v251
        intro v252
        intro v253
        intro v254
        intro v255
        intro v256
        intro h257
        intro h258
        intro h259
        intro h260
        intro h261
        intro h262
        intro h263
        intro h264
        intro h265
        intro h266
        rintro OO267 (⟨e, _⟩ | ⟨e, _⟩ | ⟨e, _⟩ | ⟨e, _⟩ | ⟨_, hp, _⟩)
        · cases e
        · cases e
        · cases e
        · cases e
        refine ⟨[], _, hp, ?_⟩
        obtain ⟨_, h268⟩ := acell_Mach (show VRep (kMach true true) R245 v253 y242.1 from h263)
        obtain ⟨b269, rfl⟩ : ∃ b, v255 = .pointer (some ⟨b, 0, none⟩) := ⟨_, h265⟩
        obtain rfl := Eq.symm h258
        obtain rfl := Eq.symm h259
        obtain rfl := Eq.symm h260
        obtain ⟨v270, rfl, h271⟩ := h261
        obtain ⟨v272, rfl, h273⟩ := h262
        obtain rfl := Eq.symm h264
        obtain rfl := Eq.symm h266
        refine wo_nil ?_
        refine wg_seq ?_
        refine wg_region ?_
        refine wo_v rfl (val_move (v := (.int .i64 o195)) rfl) ?_
        refine wo_v rfl (val_assign (v := (.int .i64 o195)) rfl) ?_
        refine wo_nil ?_
        replace hd0 := bd_some hd0; obtain ⟨o274, hd1, hd0⟩ := hd0
        refine wg_meet (γ := Int) true [141, 142, 143, 144, 145, 146, 147, 148, 149, 150, 151, 152, 22] (fun g => [(22, (.int .i64 g))]) (fun g => [box b238 [(.int .i64 y232.1.to), (.int .i64 y232.1.out)] 40, box b269 [(.int .i64 y242.1.inputs), (.int .i64 y242.1.outputs), (aggC v253 2)] 27] ++ A) (fun g R => o274 = g ∧ True) ?_ ?_
        ·
          refine wg_seq ?_
          refine wg_guarded 12 [] [phX (.int .i64 o195), phX (.bool (decide (o195 = 0))), phX (.bool (decide (o195 = 0))), phG (true && ((decide (o195 = 0)) == true)) (phX (.int .i64 place.2)), phG (true && ((decide (o195 = 0)) == true)) (phX (.bool (decide (place.2 < 0)))), phG (true && ((decide (o195 = 0)) == true)) (phX (.bool (decide (place.2 < 0)))), phG ((true && ((decide (o195 = 0)) == true)) && ((decide (place.2 < 0)) == false)) (phX (.int .i64 place.2)), phG ((true && ((decide (o195 = 0)) == true)) && ((decide (place.2 < 0)) == false)) (phP (tInt .i64) m.inputs), phG ((true && ((decide (o195 = 0)) == true)) && ((decide (place.2 < 0)) == false)) (phX (.int .i64 m.inputs)), phG ((true && ((decide (o195 = 0)) == true)) && ((decide (place.2 < 0)) == false)) (phX (.bool (decide (m.inputs ≤ place.2)))), phG (true && ((decide (o195 = 0)) == true)) (phX (.bool ((decide (place.2 < 0)) || (decide (m.inputs ≤ place.2))))), phX (.bool ((decide (o195 = 0)) && ((decide (place.2 < 0)) || (decide (m.inputs ≤ place.2)))))] (by kernel_rfl) (by kernel_rfl) (monoOk_of ⟨mono_x, mono_x, mono_x, (mono_g mono_x), (mono_g mono_x), (mono_g mono_x), (mono_g mono_x), (mono_g mono_p), (mono_g mono_x), (mono_g mono_x), (mono_g mono_x), mono_x, trivial⟩) ⟨?_, ?_, ?_, ?_, ?_, ?_, ?_, ?_, ?_, ?_, ?_, ?_, trivial⟩ fun R277 le278 => ?_
          · intro l R0q hle ha hd
            have a22 : l 22 = (.int .i64 o195) := ha 22 rfl
            exact gstep_plain rfl rfl rfl (ph_val (val_move a22))
          · intro l R1q hle ha hd
            obtain ⟨d0, _⟩ := hd
            have f141 : l 141 = (.int .i64 o195) := d0 rfl
            exact gstep_plain rfl rfl rfl (ph_val (val_eql f141 rfl))
          · intro l R2q hle ha hd
            obtain ⟨d0, _⟩ := hd
            have f142 : l 142 = (.bool (decide (o195 = 0))) := d0 rfl
            exact gstep_plain rfl rfl rfl (ph_val (val_move f142))
          · intro l R3q hle ha hd
            obtain ⟨d0, _⟩ := hd
            have a17 : l 17 = (.int .i64 place.2) := ha 17 rfl
            exact gstep_guard (Gj := true) (Bj := decide (o195 = 0)) rfl rfl rfl (gtrue (d0 rfl)) rfl (fun hG hB => ph_val (val_move a17))
          · intro l R4q hle ha hd
            obtain ⟨d0, d1, _⟩ := hd
            have f144g : phG (true && ((decide (o195 = 0)) == true)) (phX (.int .i64 place.2)) (l 144) R4q := d0 rfl
            exact gstep_guard (Gj := true) (Bj := decide (o195 = 0)) rfl rfl rfl (gtrue (d1 rfl)) rfl (fun hG hB => ph_val (val_lss (show l 144 = (.int .i64 place.2) from f144g.1 (gandT rfl hB)) rfl))
          · intro l R5q hle ha hd
            obtain ⟨d0, d1, d2, _⟩ := hd
            have f145g : phG (true && ((decide (o195 = 0)) == true)) (phX (.bool (decide (place.2 < 0)))) (l 145) R5q := d0 rfl
            exact gstep_guard (Gj := true) (Bj := decide (o195 = 0)) rfl rfl rfl (gtrue (d1 rfl)) rfl (fun hG hB => ph_val (val_move (show l 145 = (.bool (decide (place.2 < 0))) from f145g.1 (gandT rfl hB))))
          · intro l R6q hle ha hd
            obtain ⟨d0, _⟩ := hd
            have a17 : l 17 = (.int .i64 place.2) := ha 17 rfl
            exact gstep_guard (Gj := (true && ((decide (o195 = 0)) == true))) (Bj := decide (place.2 < 0)) rfl rfl rfl (d0 rfl) rfl (fun hG hB => ph_val (val_move a17))
          · intro l R7q hle ha hd
            obtain ⟨d0, _⟩ := hd
            have a3 : l 3 = v1 := ha 3 rfl
            exact gstep_guard (Gj := (true && ((decide (o195 = 0)) == true))) (Bj := decide (place.2 < 0)) rfl rfl rfl (d0 rfl) rfl (fun hG hB => ph_fieldR fd27_0 pt_Mach0 a3 ((h2.mono (((((((((((le8.trans le12).trans le37).trans le45).trans le53).trans le61).trans le69).trans le77).trans le182).trans le197).trans le237).trans le246)).mono hle))
          · intro l R8q hle ha hd
            obtain ⟨d0, d1, _⟩ := hd
            have f148g : phG ((true && ((decide (o195 = 0)) == true)) && ((decide (place.2 < 0)) == false)) (phP (tInt .i64) m.inputs) (l 148) R8q := d0 rfl
            exact gstep_guard (Gj := (true && ((decide (o195 = 0)) == true))) (Bj := decide (place.2 < 0)) rfl rfl rfl (d1 rfl) rfl (fun hG hB => ph_exact (ph_loadR ty3 rfl (f148g.1 (gandT hG hB))) (fun _ _ h => vrep_int.1 h))
          · intro l R9q hle ha hd
            obtain ⟨d0, d1, d2, _⟩ := hd
            have f147g : phG ((true && ((decide (o195 = 0)) == true)) && ((decide (place.2 < 0)) == false)) (phX (.int .i64 place.2)) (l 147) R9q := d0 rfl
            have f149g : phG ((true && ((decide (o195 = 0)) == true)) && ((decide (place.2 < 0)) == false)) (phX (.int .i64 m.inputs)) (l 149) R9q := d1 rfl
            exact gstep_guard (Gj := (true && ((decide (o195 = 0)) == true))) (Bj := decide (place.2 < 0)) rfl rfl rfl (d2 rfl) rfl (fun hG hB => ph_val (val_geq (show l 147 = (.int .i64 place.2) from f147g.1 (gandT hG hB)) (show l 149 = (.int .i64 m.inputs) from f149g.1 (gandT hG hB))))
          · intro l R10q hle ha hd
            obtain ⟨d0, d1, d2, _⟩ := hd
            have f146g : phG (true && ((decide (o195 = 0)) == true)) (phX (.bool (decide (place.2 < 0)))) (l 146) R10q := d0 rfl
            have f150g : phG ((true && ((decide (o195 = 0)) == true)) && ((decide (place.2 < 0)) == false)) (phX (.bool (decide (m.inputs ≤ place.2)))) (l 150) R10q := d1 rfl
            exact gstep_guard (Gj := true) (Bj := decide (o195 = 0)) rfl rfl rfl (gtrue (d2 rfl)) rfl (fun hG hB => ph_val (val_or (show l 146 = (.bool (decide (place.2 < 0))) from f146g.1 (gandT rfl hB)) rfl (fun hb => (show l 150 = (.bool (decide (m.inputs ≤ place.2))) from f150g.1 (gandT (gandT rfl hB) hb)))))
          · intro l R11q hle ha hd
            obtain ⟨d0, d1, _⟩ := hd
            have f143 : l 143 = (.bool (decide (o195 = 0))) := d0 rfl
            have f151g : phG (true && ((decide (o195 = 0)) == true)) (phX (.bool ((decide (place.2 < 0)) || (decide (m.inputs ≤ place.2))))) (l 151) R11q := d1 rfl
            exact gstep_plain rfl rfl rfl (ph_val (val_and f143 (fun hb => (show l 151 = (.bool ((decide (place.2 < 0)) || (decide (m.inputs ≤ place.2)))) from f151g.1 (gandT rfl hb))) rfl))
          intro v279 h280
          intro v281 h282
          intro v283 h284
          intro v285 h286
          intro v287 h288
          intro v289 h290
          intro v291 h292
          intro v293 h294
          intro v295 h296
          intro v297 h298
          intro v299 h300
          intro v301 h302
          obtain rfl := Eq.symm h280
          obtain rfl := Eq.symm h282
          obtain rfl := Eq.symm h284
          obtain rfl := Eq.symm h302
          refine wo_nil ?_
          refine wg_cond rfl (fun e303 => ?_) (fun e303 => ?_)
          · replace hd1 := sel_t e303 hd1; clear e303
            refine wg_region ?_
            refine wo_v rfl (val_assign (v := (.int .i64 1)) rfl) ?_
            refine wo_nil ?_
            exact ⟨(fun _ => rfl), le278, (by repeat (first | exact off_self | refine off_upd rfl ?_ | refine off_setl rfl ?_ | refine off_mask_sub rfl ?_)), 1, ⟨rfl, trivial⟩, ⟨[], List.Perm.refl _⟩, (Option.some.inj hd1).symm, trivial⟩
          · replace hd1 := sel_f e303 hd1; clear e303
            refine wg_skip ?_
            exact ⟨(fun _ => rfl), le278, (by repeat (first | exact off_self | refine off_upd rfl ?_ | refine off_setl rfl ?_ | refine off_mask_sub rfl ?_)), o195, ⟨rfl, trivial⟩, ⟨[], List.Perm.refl _⟩, (Option.some.inj hd1).symm, trivial⟩
        ·
          rintro o274 j304 D305 R275 hD306 le276 ⟨rfl, _⟩
          obtain rfl := hD306 rfl
          refine wg_seq ?_
          refine wg_seq ?_
          replace hd0 := bd_some hd0; obtain ⟨y307, c308, hd0⟩ := hd0
          have g309 := (gd_some hd0).1; replace hd0 := (gd_some hd0).2
          have g310 := (gd_some hd0).1; replace hd0 := (gd_some hd0).2
          refine wg_drawn 44 [] [phX (.int .i64 y232.2), phX (.int .i64 o274), phX (.bool (decide (y232.2 ≠ o274))), phX (.bool (decide (y232.2 ≠ o274))), phG (true && ((decide (y232.2 ≠ o274)) == false)) (phX (.int .i64 y242.2)), phG (true && ((decide (y232.2 ≠ o274)) == false)) (phX (.int .i64 o274)), phG (true && ((decide (y232.2 ≠ o274)) == false)) (phX (.bool (decide (y242.2 ≠ o274)))), phX (.bool ((decide (y232.2 ≠ o274)) || (decide (y242.2 ≠ o274)))), phX (.bool ((decide (y232.2 ≠ o274)) || (decide (y242.2 ≠ o274)))), phG (true && (((decide (y232.2 ≠ o274)) || (decide (y242.2 ≠ o274))) == false)) (phX (.int .i64 o274)), phG (true && (((decide (y232.2 ≠ o274)) || (decide (y242.2 ≠ o274))) == false)) (phX (.bool (decide (o274 ≠ 0)))), phG (true && (((decide (y232.2 ≠ o274)) || (decide (y242.2 ≠ o274))) == false)) (phX (.bool (decide (o274 ≠ 0)))), phG ((true && (((decide (y232.2 ≠ o274)) || (decide (y242.2 ≠ o274))) == false)) && ((decide (o274 ≠ 0)) == true)) (phX (.agg #[(.int .i64 y232.1.to), (.int .i64 y232.1.out)])), phG ((true && (((decide (y232.2 ≠ o274)) || (decide (y242.2 ≠ o274))) == false)) && ((decide (o274 ≠ 0)) == true)) (phX (enc_Edge (y307.getD default))), phG ((true && (((decide (y232.2 ≠ o274)) || (decide (y242.2 ≠ o274))) == false)) && ((decide (o274 ≠ 0)) == true)) (phX (.bool (decide (¬ (y232.1.to = ((y307.getD default).to) ∧ y232.1.out = ((y307.getD default).out)))))), phG ((true && (((decide (y232.2 ≠ o274)) || (decide (y242.2 ≠ o274))) == false)) && ((decide (o274 ≠ 0)) == true)) (phX (.bool (decide (¬ (y232.1.to = ((y307.getD default).to) ∧ y232.1.out = ((y307.getD default).out)))))), phG (((true && (((decide (y232.2 ≠ o274)) || (decide (y242.2 ≠ o274))) == false)) && ((decide (o274 ≠ 0)) == true)) && ((decide (¬ (y232.1.to = ((y307.getD default).to) ∧ y232.1.out = ((y307.getD default).out)))) == false)) (phX (.pointer (some ⟨b269, 0, none⟩))), phG (((true && (((decide (y232.2 ≠ o274)) || (decide (y242.2 ≠ o274))) == false)) && ((decide (o274 ≠ 0)) == true)) && ((decide (¬ (y232.1.to = ((y307.getD default).to) ∧ y232.1.out = ((y307.getD default).out)))) == false)) (phX (.int .i64 y242.1.inputs)), phG (((true && (((decide (y232.2 ≠ o274)) || (decide (y242.2 ≠ o274))) == false)) && ((decide (o274 ≠ 0)) == true)) && ((decide (¬ (y232.1.to = ((y307.getD default).to) ∧ y232.1.out = ((y307.getD default).out)))) == false)) (phX (.bool (decide (y242.1.inputs ≠ 0)))), phG ((true && (((decide (y232.2 ≠ o274)) || (decide (y242.2 ≠ o274))) == false)) && ((decide (o274 ≠ 0)) == true)) (phX (.bool ((decide (¬ (y232.1.to = ((y307.getD default).to) ∧ y232.1.out = ((y307.getD default).out)))) || (decide (y242.1.inputs ≠ 0))))), phG ((true && (((decide (y232.2 ≠ o274)) || (decide (y242.2 ≠ o274))) == false)) && ((decide (o274 ≠ 0)) == true)) (phX (.bool ((decide (¬ (y232.1.to = ((y307.getD default).to) ∧ y232.1.out = ((y307.getD default).out)))) || (decide (y242.1.inputs ≠ 0))))), phG (((true && (((decide (y232.2 ≠ o274)) || (decide (y242.2 ≠ o274))) == false)) && ((decide (o274 ≠ 0)) == true)) && (((decide (¬ (y232.1.to = ((y307.getD default).to) ∧ y232.1.out = ((y307.getD default).out)))) || (decide (y242.1.inputs ≠ 0))) == false)) (phX (.pointer (some ⟨b269, 2, none⟩))), phG (((true && (((decide (y232.2 ≠ o274)) || (decide (y242.2 ≠ o274))) == false)) && ((decide (o274 ≠ 0)) == true)) && (((decide (¬ (y232.1.to = ((y307.getD default).to) ∧ y232.1.out = ((y307.getD default).out)))) || (decide (y242.1.inputs ≠ 0))) == false)) (phX (aggC v253 2)), phG (((true && (((decide (y232.2 ≠ o274)) || (decide (y242.2 ≠ o274))) == false)) && ((decide (o274 ≠ 0)) == true)) && (((decide (¬ (y232.1.to = ((y307.getD default).to) ∧ y232.1.out = ((y307.getD default).out)))) || (decide (y242.1.inputs ≠ 0))) == false)) (phX (.int .i64 (↑y242.1.rows.length : Int))), phG (((true && (((decide (y232.2 ≠ o274)) || (decide (y242.2 ≠ o274))) == false)) && ((decide (o274 ≠ 0)) == true)) && (((decide (¬ (y232.1.to = ((y307.getD default).to) ∧ y232.1.out = ((y307.getD default).out)))) || (decide (y242.1.inputs ≠ 0))) == false)) (phX (.bool (decide ((↑y242.1.rows.length : Int) ≠ 0)))), phG ((true && (((decide (y232.2 ≠ o274)) || (decide (y242.2 ≠ o274))) == false)) && ((decide (o274 ≠ 0)) == true)) (phX (.bool (((decide (¬ (y232.1.to = ((y307.getD default).to) ∧ y232.1.out = ((y307.getD default).out)))) || (decide (y242.1.inputs ≠ 0))) || (decide ((↑y242.1.rows.length : Int) ≠ 0))))), phG (true && (((decide (y232.2 ≠ o274)) || (decide (y242.2 ≠ o274))) == false)) (phX (.bool ((decide (o274 ≠ 0)) && (((decide (¬ (y232.1.to = ((y307.getD default).to) ∧ y232.1.out = ((y307.getD default).out)))) || (decide (y242.1.inputs ≠ 0))) || (decide ((↑y242.1.rows.length : Int) ≠ 0)))))), phX (.bool (((decide (y232.2 ≠ o274)) || (decide (y242.2 ≠ o274))) || ((decide (o274 ≠ 0)) && (((decide (¬ (y232.1.to = ((y307.getD default).to) ∧ y232.1.out = ((y307.getD default).out)))) || (decide (y242.1.inputs ≠ 0))) || (decide ((↑y242.1.rows.length : Int) ≠ 0)))))), phX (.bool (((decide (y232.2 ≠ o274)) || (decide (y242.2 ≠ o274))) || ((decide (o274 ≠ 0)) && (((decide (¬ (y232.1.to = ((y307.getD default).to) ∧ y232.1.out = ((y307.getD default).out)))) || (decide (y242.1.inputs ≠ 0))) || (decide ((↑y242.1.rows.length : Int) ≠ 0)))))), phG (true && ((((decide (y232.2 ≠ o274)) || (decide (y242.2 ≠ o274))) || ((decide (o274 ≠ 0)) && (((decide (¬ (y232.1.to = ((y307.getD default).to) ∧ y232.1.out = ((y307.getD default).out)))) || (decide (y242.1.inputs ≠ 0))) || (decide ((↑y242.1.rows.length : Int) ≠ 0))))) == false)) (phX (.int .i64 o274)), phG (true && ((((decide (y232.2 ≠ o274)) || (decide (y242.2 ≠ o274))) || ((decide (o274 ≠ 0)) && (((decide (¬ (y232.1.to = ((y307.getD default).to) ∧ y232.1.out = ((y307.getD default).out)))) || (decide (y242.1.inputs ≠ 0))) || (decide ((↑y242.1.rows.length : Int) ≠ 0))))) == false)) (phX (.bool (decide (o274 = 0)))), phG (true && ((((decide (y232.2 ≠ o274)) || (decide (y242.2 ≠ o274))) || ((decide (o274 ≠ 0)) && (((decide (¬ (y232.1.to = ((y307.getD default).to) ∧ y232.1.out = ((y307.getD default).out)))) || (decide (y242.1.inputs ≠ 0))) || (decide ((↑y242.1.rows.length : Int) ≠ 0))))) == false)) (phX (.bool (decide (o274 = 0)))), phG ((true && ((((decide (y232.2 ≠ o274)) || (decide (y242.2 ≠ o274))) || ((decide (o274 ≠ 0)) && (((decide (¬ (y232.1.to = ((y307.getD default).to) ∧ y232.1.out = ((y307.getD default).out)))) || (decide (y242.1.inputs ≠ 0))) || (decide ((↑y242.1.rows.length : Int) ≠ 0))))) == false)) && ((decide (o274 = 0)) == true)) (phX (.agg #[(.int .i64 y232.1.to), (.int .i64 y232.1.out)])), phG ((true && ((((decide (y232.2 ≠ o274)) || (decide (y242.2 ≠ o274))) || ((decide (o274 ≠ 0)) && (((decide (¬ (y232.1.to = ((y307.getD default).to) ∧ y232.1.out = ((y307.getD default).out)))) || (decide (y242.1.inputs ≠ 0))) || (decide ((↑y242.1.rows.length : Int) ≠ 0))))) == false)) && ((decide (o274 = 0)) == true)) (phP (tSl false (tSl false kEdge)) m.rows), phG ((true && ((((decide (y232.2 ≠ o274)) || (decide (y242.2 ≠ o274))) || ((decide (o274 ≠ 0)) && (((decide (¬ (y232.1.to = ((y307.getD default).to) ∧ y232.1.out = ((y307.getD default).out)))) || (decide (y242.1.inputs ≠ 0))) || (decide ((↑y242.1.rows.length : Int) ≠ 0))))) == false)) && ((decide (o274 = 0)) == true)) (phR (tSl false (tSl false kEdge)) m.rows), phG ((true && ((((decide (y232.2 ≠ o274)) || (decide (y242.2 ≠ o274))) || ((decide (o274 ≠ 0)) && (((decide (¬ (y232.1.to = ((y307.getD default).to) ∧ y232.1.out = ((y307.getD default).out)))) || (decide (y242.1.inputs ≠ 0))) || (decide ((↑y242.1.rows.length : Int) ≠ 0))))) == false)) && ((decide (o274 = 0)) == true)) (phX (.int .i64 place.1)), phG ((true && ((((decide (y232.2 ≠ o274)) || (decide (y242.2 ≠ o274))) || ((decide (o274 ≠ 0)) && (((decide (¬ (y232.1.to = ((y307.getD default).to) ∧ y232.1.out = ((y307.getD default).out)))) || (decide (y242.1.inputs ≠ 0))) || (decide ((↑y242.1.rows.length : Int) ≠ 0))))) == false)) && ((decide (o274 = 0)) == true)) (phP (tSl false kEdge) (ix m.rows place.1)), phG ((true && ((((decide (y232.2 ≠ o274)) || (decide (y242.2 ≠ o274))) || ((decide (o274 ≠ 0)) && (((decide (¬ (y232.1.to = ((y307.getD default).to) ∧ y232.1.out = ((y307.getD default).out)))) || (decide (y242.1.inputs ≠ 0))) || (decide ((↑y242.1.rows.length : Int) ≠ 0))))) == false)) && ((decide (o274 = 0)) == true)) (phR (tSl false kEdge) (ix m.rows place.1)), phG ((true && ((((decide (y232.2 ≠ o274)) || (decide (y242.2 ≠ o274))) || ((decide (o274 ≠ 0)) && (((decide (¬ (y232.1.to = ((y307.getD default).to) ∧ y232.1.out = ((y307.getD default).out)))) || (decide (y242.1.inputs ≠ 0))) || (decide ((↑y242.1.rows.length : Int) ≠ 0))))) == false)) && ((decide (o274 = 0)) == true)) (phX (.int .i64 place.2)), phG ((true && ((((decide (y232.2 ≠ o274)) || (decide (y242.2 ≠ o274))) || ((decide (o274 ≠ 0)) && (((decide (¬ (y232.1.to = ((y307.getD default).to) ∧ y232.1.out = ((y307.getD default).out)))) || (decide (y242.1.inputs ≠ 0))) || (decide ((↑y242.1.rows.length : Int) ≠ 0))))) == false)) && ((decide (o274 = 0)) == true)) (phP kEdge (ix (ix m.rows place.1) place.2)), phG ((true && ((((decide (y232.2 ≠ o274)) || (decide (y242.2 ≠ o274))) || ((decide (o274 ≠ 0)) && (((decide (¬ (y232.1.to = ((y307.getD default).to) ∧ y232.1.out = ((y307.getD default).out)))) || (decide (y242.1.inputs ≠ 0))) || (decide ((↑y242.1.rows.length : Int) ≠ 0))))) == false)) && ((decide (o274 = 0)) == true)) (phX (enc_Edge (ix (ix m.rows place.1) place.2))), phG ((true && ((((decide (y232.2 ≠ o274)) || (decide (y242.2 ≠ o274))) || ((decide (o274 ≠ 0)) && (((decide (¬ (y232.1.to = ((y307.getD default).to) ∧ y232.1.out = ((y307.getD default).out)))) || (decide (y242.1.inputs ≠ 0))) || (decide ((↑y242.1.rows.length : Int) ≠ 0))))) == false)) && ((decide (o274 = 0)) == true)) (phX (.bool (decide (¬ (y232.1.to = ((ix (ix m.rows place.1) place.2).to) ∧ y232.1.out = ((ix (ix m.rows place.1) place.2).out)))))), phG (true && ((((decide (y232.2 ≠ o274)) || (decide (y242.2 ≠ o274))) || ((decide (o274 ≠ 0)) && (((decide (¬ (y232.1.to = ((y307.getD default).to) ∧ y232.1.out = ((y307.getD default).out)))) || (decide (y242.1.inputs ≠ 0))) || (decide ((↑y242.1.rows.length : Int) ≠ 0))))) == false)) (phX (.bool ((decide (o274 = 0)) && (decide (¬ (y232.1.to = ((ix (ix m.rows place.1) place.2).to) ∧ y232.1.out = ((ix (ix m.rows place.1) place.2).out))))))), phX (.bool ((((decide (y232.2 ≠ o274)) || (decide (y242.2 ≠ o274))) || ((decide (o274 ≠ 0)) && (((decide (¬ (y232.1.to = ((y307.getD default).to) ∧ y232.1.out = ((y307.getD default).out)))) || (decide (y242.1.inputs ≠ 0))) || (decide ((↑y242.1.rows.length : Int) ≠ 0))))) || ((decide (o274 = 0)) && (decide (¬ (y232.1.to = ((ix (ix m.rows place.1) place.2).to) ∧ y232.1.out = ((ix (ix m.rows place.1) place.2).out)))))))] mixed (by kernel_rfl) (monoOk_of ⟨mono_x, mono_x, mono_x, mono_x, (mono_g mono_x), (mono_g mono_x), (mono_g mono_x), mono_x, mono_x, (mono_g mono_x), (mono_g mono_x), (mono_g mono_x), (mono_g mono_x), (mono_g mono_x), (mono_g mono_x), (mono_g mono_x), (mono_g mono_x), (mono_g mono_x), (mono_g mono_x), (mono_g mono_x), (mono_g mono_x), (mono_g mono_x), (mono_g mono_x), (mono_g mono_x), (mono_g mono_x), (mono_g mono_x), (mono_g mono_x), mono_x, mono_x, (mono_g mono_x), (mono_g mono_x), (mono_g mono_x), (mono_g mono_x), (mono_g mono_p), (mono_g mono_r), (mono_g mono_x), (mono_g mono_p), (mono_g mono_r), (mono_g mono_x), (mono_g mono_p), (mono_g mono_x), (mono_g mono_x), (mono_g mono_x), mono_x, trivial⟩) ⟨?_, ?_, ?_, ?_, ?_, ?_, ?_, ?_, ?_, ?_, ?_, ?_, ?_, ?_, ?_, ?_, ?_, ?_, ?_, ?_, ?_, ?_, ?_, ?_, ?_, ?_, ?_, ?_, ?_, ?_, ?_, ?_, ?_, ?_, ?_, ?_, ?_, ?_, ?_, ?_, ?_, ?_, ?_, ?_, trivial⟩ fun R311 le312 => ?_
          · intro l R0q hle ha hd
            have a19 : l 19 = (.int .i64 y232.2) := ha 19 rfl
            exact gstep_plain rfl rfl rfl (ph_val (val_move a19))
          · intro l R1q hle ha hd
            have a22 : l 22 = (.int .i64 o274) := ha 22 rfl
            exact gstep_plain rfl rfl rfl (ph_val (val_move a22))
          · intro l R2q hle ha hd
            obtain ⟨d0, d1, _⟩ := hd
            have f153 : l 153 = (.int .i64 y232.2) := d0 rfl
            have f154 : l 154 = (.int .i64 o274) := d1 rfl
            exact gstep_plain rfl rfl rfl (ph_val (val_neq f153 f154))
          · intro l R3q hle ha hd
            obtain ⟨d0, _⟩ := hd
            have f155 : l 155 = (.bool (decide (y232.2 ≠ o274))) := d0 rfl
            exact gstep_plain rfl rfl rfl (ph_val (val_move f155))
          · intro l R4q hle ha hd
            obtain ⟨d0, _⟩ := hd
            have a21 : l 21 = (.int .i64 y242.2) := ha 21 rfl
            exact gstep_guard (Gj := true) (Bj := decide (y232.2 ≠ o274)) rfl rfl rfl (gtrue (d0 rfl)) rfl (fun hG hB => ph_val (val_move a21))
          · intro l R5q hle ha hd
            obtain ⟨d0, _⟩ := hd
            have a22 : l 22 = (.int .i64 o274) := ha 22 rfl
            exact gstep_guard (Gj := true) (Bj := decide (y232.2 ≠ o274)) rfl rfl rfl (gtrue (d0 rfl)) rfl (fun hG hB => ph_val (val_move a22))
          · intro l R6q hle ha hd
            obtain ⟨d0, d1, d2, _⟩ := hd
            have f157g : phG (true && ((decide (y232.2 ≠ o274)) == false)) (phX (.int .i64 y242.2)) (l 157) R6q := d0 rfl
            have f158g : phG (true && ((decide (y232.2 ≠ o274)) == false)) (phX (.int .i64 o274)) (l 158) R6q := d1 rfl
            exact gstep_guard (Gj := true) (Bj := decide (y232.2 ≠ o274)) rfl rfl rfl (gtrue (d2 rfl)) rfl (fun hG hB => ph_val (val_neq (show l 157 = (.int .i64 y242.2) from f157g.1 (gandT rfl hB)) (show l 158 = (.int .i64 o274) from f158g.1 (gandT rfl hB))))
          · intro l R7q hle ha hd
            obtain ⟨d0, d1, _⟩ := hd
            have f156 : l 156 = (.bool (decide (y232.2 ≠ o274))) := d0 rfl
            have f159g : phG (true && ((decide (y232.2 ≠ o274)) == false)) (phX (.bool (decide (y242.2 ≠ o274)))) (l 159) R7q := d1 rfl
            exact gstep_plain rfl rfl rfl (ph_val (val_or f156 rfl (fun hb => (show l 159 = (.bool (decide (y242.2 ≠ o274))) from f159g.1 (gandT rfl hb)))))
          · intro l R8q hle ha hd
            obtain ⟨d0, d1, _⟩ := hd
            have f160 : l 160 = (.bool ((decide (y232.2 ≠ o274)) || (decide (y242.2 ≠ o274)))) := d0 rfl
            exact gstep_plain rfl rfl rfl (ph_val (val_move f160))
          · intro l R9q hle ha hd
            obtain ⟨d0, _⟩ := hd
            have a22 : l 22 = (.int .i64 o274) := ha 22 rfl
            exact gstep_guard (Gj := true) (Bj := (decide (y232.2 ≠ o274)) || (decide (y242.2 ≠ o274))) rfl rfl rfl (gtrue (d0 rfl)) rfl (fun hG hB => ph_val (val_move a22))
          · intro l R10q hle ha hd
            obtain ⟨d0, d1, _⟩ := hd
            have f162g : phG (true && (((decide (y232.2 ≠ o274)) || (decide (y242.2 ≠ o274))) == false)) (phX (.int .i64 o274)) (l 162) R10q := d0 rfl
            exact gstep_guard (Gj := true) (Bj := (decide (y232.2 ≠ o274)) || (decide (y242.2 ≠ o274))) rfl rfl rfl (gtrue (d1 rfl)) rfl (fun hG hB => ph_val (val_neq (show l 162 = (.int .i64 o274) from f162g.1 (gandT rfl hB)) rfl))
          · intro l R11q hle ha hd
            obtain ⟨d0, d1, d2, _⟩ := hd
            have f163g : phG (true && (((decide (y232.2 ≠ o274)) || (decide (y242.2 ≠ o274))) == false)) (phX (.bool (decide (o274 ≠ 0)))) (l 163) R11q := d0 rfl
            exact gstep_guard (Gj := true) (Bj := (decide (y232.2 ≠ o274)) || (decide (y242.2 ≠ o274))) rfl rfl rfl (gtrue (d1 rfl)) rfl (fun hG hB => ph_val (val_move (show l 163 = (.bool (decide (o274 ≠ 0))) from f163g.1 (gandT rfl hB))))
          · intro l R12q hle ha hd
            obtain ⟨d0, _⟩ := hd
            have a18 : l 18 = (.pointer (some ⟨b238, 0, none⟩)) := ha 18 rfl
            exact gstep_guard (Gj := (true && (((decide (y232.2 ≠ o274)) || (decide (y242.2 ≠ o274))) == false))) (Bj := decide (o274 ≠ 0)) rfl rfl rfl (d0 rfl) rfl (fun hG hB => ph_val (val_loadBA (i := 0) ag40 sz40 a18 rfl rfl rfl))
          · intro l R13q hle ha hd
            obtain ⟨d0, d1, _⟩ := hd
            exact gstep_guard (Gj := (true && (((decide (y232.2 ≠ o274)) || (decide (y242.2 ≠ o274))) == false))) (Bj := decide (o274 ≠ 0)) rfl rfl rfl (d0 rfl) rfl (fun hG hB => ph_callP en18 rfl (c_gauntletlaw04_edge  (gop_def c308 (gandT hG hB))) (fun _ _ h => h))
          · intro l R14q hle ha hd
            obtain ⟨d0, d1, d2, _⟩ := hd
            have f165g : phG ((true && (((decide (y232.2 ≠ o274)) || (decide (y242.2 ≠ o274))) == false)) && ((decide (o274 ≠ 0)) == true)) (phX (.agg #[(.int .i64 y232.1.to), (.int .i64 y232.1.out)])) (l 165) R14q := d0 rfl
            have f166g : phG ((true && (((decide (y232.2 ≠ o274)) || (decide (y242.2 ≠ o274))) == false)) && ((decide (o274 ≠ 0)) == true)) (phX (enc_Edge (y307.getD default))) (l 166) R14q := d1 rfl
            exact gstep_guard (Gj := (true && (((decide (y232.2 ≠ o274)) || (decide (y242.2 ≠ o274))) == false))) (Bj := decide (o274 ≠ 0)) rfl rfl rfl (d2 rfl) rfl (fun hG hB => ph_val (val_neq2 eq40 (show l 165 = (.agg #[(.int .i64 y232.1.to), (.int .i64 y232.1.out)]) from f165g.1 (gandT hG hB)) (show l 166 = (enc_Edge (y307.getD default)) from f166g.1 (gandT hG hB))))
          · intro l R15q hle ha hd
            obtain ⟨d0, d1, d2, _⟩ := hd
            have f167g : phG ((true && (((decide (y232.2 ≠ o274)) || (decide (y242.2 ≠ o274))) == false)) && ((decide (o274 ≠ 0)) == true)) (phX (.bool (decide (¬ (y232.1.to = ((y307.getD default).to) ∧ y232.1.out = ((y307.getD default).out)))))) (l 167) R15q := d0 rfl
            exact gstep_guard (Gj := (true && (((decide (y232.2 ≠ o274)) || (decide (y242.2 ≠ o274))) == false))) (Bj := decide (o274 ≠ 0)) rfl rfl rfl (d2 rfl) rfl (fun hG hB => ph_val (val_move (show l 167 = (.bool (decide (¬ (y232.1.to = ((y307.getD default).to) ∧ y232.1.out = ((y307.getD default).out))))) from f167g.1 (gandT hG hB))))
          · intro l R16q hle ha hd
            obtain ⟨d0, _⟩ := hd
            have a20 : l 20 = (.pointer (some ⟨b269, 0, none⟩)) := ha 20 rfl
            exact gstep_guard (Gj := ((true && (((decide (y232.2 ≠ o274)) || (decide (y242.2 ≠ o274))) == false)) && ((decide (o274 ≠ 0)) == true))) (Bj := decide (¬ (y232.1.to = ((y307.getD default).to) ∧ y232.1.out = ((y307.getD default).out)))) rfl rfl rfl (d0 rfl) rfl (fun hG hB => ph_val (val_fieldB fd27_0 a20))
          · intro l R17q hle ha hd
            obtain ⟨d0, d1, _⟩ := hd
            have f169g : phG (((true && (((decide (y232.2 ≠ o274)) || (decide (y242.2 ≠ o274))) == false)) && ((decide (o274 ≠ 0)) == true)) && ((decide (¬ (y232.1.to = ((y307.getD default).to) ∧ y232.1.out = ((y307.getD default).out)))) == false)) (phX (.pointer (some ⟨b269, 0, none⟩))) (l 169) R17q := d0 rfl
            exact gstep_guard (Gj := ((true && (((decide (y232.2 ≠ o274)) || (decide (y242.2 ≠ o274))) == false)) && ((decide (o274 ≠ 0)) == true))) (Bj := decide (¬ (y232.1.to = ((y307.getD default).to) ∧ y232.1.out = ((y307.getD default).out)))) rfl rfl rfl (d1 rfl) rfl (fun hG hB => ph_val (val_loadB (i := 1) ag3 (show l 169 = (.pointer (some ⟨b269, 0, none⟩)) from f169g.1 (gandT hG hB)) rfl rfl))
          · intro l R18q hle ha hd
            obtain ⟨d0, d1, _⟩ := hd
            have f170g : phG (((true && (((decide (y232.2 ≠ o274)) || (decide (y242.2 ≠ o274))) == false)) && ((decide (o274 ≠ 0)) == true)) && ((decide (¬ (y232.1.to = ((y307.getD default).to) ∧ y232.1.out = ((y307.getD default).out)))) == false)) (phX (.int .i64 y242.1.inputs)) (l 170) R18q := d0 rfl
            exact gstep_guard (Gj := ((true && (((decide (y232.2 ≠ o274)) || (decide (y242.2 ≠ o274))) == false)) && ((decide (o274 ≠ 0)) == true))) (Bj := decide (¬ (y232.1.to = ((y307.getD default).to) ∧ y232.1.out = ((y307.getD default).out)))) rfl rfl rfl (d1 rfl) rfl (fun hG hB => ph_val (val_neq (show l 170 = (.int .i64 y242.1.inputs) from f170g.1 (gandT hG hB)) rfl))
          · intro l R19q hle ha hd
            obtain ⟨d0, d1, d2, _⟩ := hd
            have f168g : phG ((true && (((decide (y232.2 ≠ o274)) || (decide (y242.2 ≠ o274))) == false)) && ((decide (o274 ≠ 0)) == true)) (phX (.bool (decide (¬ (y232.1.to = ((y307.getD default).to) ∧ y232.1.out = ((y307.getD default).out)))))) (l 168) R19q := d0 rfl
            have f171g : phG (((true && (((decide (y232.2 ≠ o274)) || (decide (y242.2 ≠ o274))) == false)) && ((decide (o274 ≠ 0)) == true)) && ((decide (¬ (y232.1.to = ((y307.getD default).to) ∧ y232.1.out = ((y307.getD default).out)))) == false)) (phX (.bool (decide (y242.1.inputs ≠ 0)))) (l 171) R19q := d1 rfl
            exact gstep_guard (Gj := (true && (((decide (y232.2 ≠ o274)) || (decide (y242.2 ≠ o274))) == false))) (Bj := decide (o274 ≠ 0)) rfl rfl rfl (d2 rfl) rfl (fun hG hB => ph_val (val_or (show l 168 = (.bool (decide (¬ (y232.1.to = ((y307.getD default).to) ∧ y232.1.out = ((y307.getD default).out))))) from f168g.1 (gandT hG hB)) rfl (fun hb => (show l 171 = (.bool (decide (y242.1.inputs ≠ 0))) from f171g.1 (gandT (gandT hG hB) hb)))))
          · intro l R20q hle ha hd
            obtain ⟨d0, d1, d2, _⟩ := hd
            have f172g : phG ((true && (((decide (y232.2 ≠ o274)) || (decide (y242.2 ≠ o274))) == false)) && ((decide (o274 ≠ 0)) == true)) (phX (.bool ((decide (¬ (y232.1.to = ((y307.getD default).to) ∧ y232.1.out = ((y307.getD default).out)))) || (decide (y242.1.inputs ≠ 0))))) (l 172) R20q := d0 rfl
            exact gstep_guard (Gj := (true && (((decide (y232.2 ≠ o274)) || (decide (y242.2 ≠ o274))) == false))) (Bj := decide (o274 ≠ 0)) rfl rfl rfl (d2 rfl) rfl (fun hG hB => ph_val (val_move (show l 172 = (.bool ((decide (¬ (y232.1.to = ((y307.getD default).to) ∧ y232.1.out = ((y307.getD default).out)))) || (decide (y242.1.inputs ≠ 0)))) from f172g.1 (gandT hG hB))))
          · intro l R21q hle ha hd
            obtain ⟨d0, _⟩ := hd
            have a20 : l 20 = (.pointer (some ⟨b269, 0, none⟩)) := ha 20 rfl
            exact gstep_guard (Gj := ((true && (((decide (y232.2 ≠ o274)) || (decide (y242.2 ≠ o274))) == false)) && ((decide (o274 ≠ 0)) == true))) (Bj := (decide (¬ (y232.1.to = ((y307.getD default).to) ∧ y232.1.out = ((y307.getD default).out)))) || (decide (y242.1.inputs ≠ 0))) rfl rfl rfl (d0 rfl) rfl (fun hG hB => ph_val (val_fieldB fd27_2 a20))
          · intro l R22q hle ha hd
            obtain ⟨d0, d1, _⟩ := hd
            have f174g : phG (((true && (((decide (y232.2 ≠ o274)) || (decide (y242.2 ≠ o274))) == false)) && ((decide (o274 ≠ 0)) == true)) && (((decide (¬ (y232.1.to = ((y307.getD default).to) ∧ y232.1.out = ((y307.getD default).out)))) || (decide (y242.1.inputs ≠ 0))) == false)) (phX (.pointer (some ⟨b269, 2, none⟩))) (l 174) R22q := d0 rfl
            exact gstep_guard (Gj := ((true && (((decide (y232.2 ≠ o274)) || (decide (y242.2 ≠ o274))) == false)) && ((decide (o274 ≠ 0)) == true))) (Bj := (decide (¬ (y232.1.to = ((y307.getD default).to) ∧ y232.1.out = ((y307.getD default).out)))) || (decide (y242.1.inputs ≠ 0))) rfl rfl rfl (d1 rfl) rfl (fun hG hB => ph_val (val_loadB (i := 1) ag25 (show l 174 = (.pointer (some ⟨b269, 2, none⟩)) from f174g.1 (gandT hG hB)) rfl rfl))
          · intro l R23q hle ha hd
            obtain ⟨d0, d1, _⟩ := hd
            have f175g : phG (((true && (((decide (y232.2 ≠ o274)) || (decide (y242.2 ≠ o274))) == false)) && ((decide (o274 ≠ 0)) == true)) && (((decide (¬ (y232.1.to = ((y307.getD default).to) ∧ y232.1.out = ((y307.getD default).out)))) || (decide (y242.1.inputs ≠ 0))) == false)) (phX (aggC v253 2)) (l 175) R23q := d0 rfl
            exact gstep_guard (Gj := ((true && (((decide (y232.2 ≠ o274)) || (decide (y242.2 ≠ o274))) == false)) && ((decide (o274 ≠ 0)) == true))) (Bj := (decide (¬ (y232.1.to = ((y307.getD default).to) ∧ y232.1.out = ((y307.getD default).out)))) || (decide (y242.1.inputs ≠ 0))) rfl rfl rfl (d1 rfl) rfl (fun hG hB => ph_val (val_lenR rfl Try.underlying25 (show l 175 = (aggC v253 2) from f175g.1 (gandT hG hB)) (sl_s ((h268.mono le276).mono hle))))
          · intro l R24q hle ha hd
            obtain ⟨d0, d1, _⟩ := hd
            have f176g : phG (((true && (((decide (y232.2 ≠ o274)) || (decide (y242.2 ≠ o274))) == false)) && ((decide (o274 ≠ 0)) == true)) && (((decide (¬ (y232.1.to = ((y307.getD default).to) ∧ y232.1.out = ((y307.getD default).out)))) || (decide (y242.1.inputs ≠ 0))) == false)) (phX (.int .i64 (↑y242.1.rows.length : Int))) (l 176) R24q := d0 rfl
            exact gstep_guard (Gj := ((true && (((decide (y232.2 ≠ o274)) || (decide (y242.2 ≠ o274))) == false)) && ((decide (o274 ≠ 0)) == true))) (Bj := (decide (¬ (y232.1.to = ((y307.getD default).to) ∧ y232.1.out = ((y307.getD default).out)))) || (decide (y242.1.inputs ≠ 0))) rfl rfl rfl (d1 rfl) rfl (fun hG hB => ph_val (val_neq (show l 176 = (.int .i64 (↑y242.1.rows.length : Int)) from f176g.1 (gandT hG hB)) rfl))
          · intro l R25q hle ha hd
            obtain ⟨d0, d1, d2, _⟩ := hd
            have f173g : phG ((true && (((decide (y232.2 ≠ o274)) || (decide (y242.2 ≠ o274))) == false)) && ((decide (o274 ≠ 0)) == true)) (phX (.bool ((decide (¬ (y232.1.to = ((y307.getD default).to) ∧ y232.1.out = ((y307.getD default).out)))) || (decide (y242.1.inputs ≠ 0))))) (l 173) R25q := d0 rfl
            have f177g : phG (((true && (((decide (y232.2 ≠ o274)) || (decide (y242.2 ≠ o274))) == false)) && ((decide (o274 ≠ 0)) == true)) && (((decide (¬ (y232.1.to = ((y307.getD default).to) ∧ y232.1.out = ((y307.getD default).out)))) || (decide (y242.1.inputs ≠ 0))) == false)) (phX (.bool (decide ((↑y242.1.rows.length : Int) ≠ 0)))) (l 177) R25q := d1 rfl
            exact gstep_guard (Gj := (true && (((decide (y232.2 ≠ o274)) || (decide (y242.2 ≠ o274))) == false))) (Bj := decide (o274 ≠ 0)) rfl rfl rfl (d2 rfl) rfl (fun hG hB => ph_val (val_or (show l 173 = (.bool ((decide (¬ (y232.1.to = ((y307.getD default).to) ∧ y232.1.out = ((y307.getD default).out)))) || (decide (y242.1.inputs ≠ 0)))) from f173g.1 (gandT hG hB)) rfl (fun hb => (show l 177 = (.bool (decide ((↑y242.1.rows.length : Int) ≠ 0))) from f177g.1 (gandT (gandT hG hB) hb)))))
          · intro l R26q hle ha hd
            obtain ⟨d0, d1, d2, _⟩ := hd
            have f164g : phG (true && (((decide (y232.2 ≠ o274)) || (decide (y242.2 ≠ o274))) == false)) (phX (.bool (decide (o274 ≠ 0)))) (l 164) R26q := d0 rfl
            have f178g : phG ((true && (((decide (y232.2 ≠ o274)) || (decide (y242.2 ≠ o274))) == false)) && ((decide (o274 ≠ 0)) == true)) (phX (.bool (((decide (¬ (y232.1.to = ((y307.getD default).to) ∧ y232.1.out = ((y307.getD default).out)))) || (decide (y242.1.inputs ≠ 0))) || (decide ((↑y242.1.rows.length : Int) ≠ 0))))) (l 178) R26q := d1 rfl
            exact gstep_guard (Gj := true) (Bj := (decide (y232.2 ≠ o274)) || (decide (y242.2 ≠ o274))) rfl rfl rfl (gtrue (d2 rfl)) rfl (fun hG hB => ph_val (val_and (show l 164 = (.bool (decide (o274 ≠ 0))) from f164g.1 (gandT rfl hB)) (fun hb => (show l 178 = (.bool (((decide (¬ (y232.1.to = ((y307.getD default).to) ∧ y232.1.out = ((y307.getD default).out)))) || (decide (y242.1.inputs ≠ 0))) || (decide ((↑y242.1.rows.length : Int) ≠ 0)))) from f178g.1 (gandT (gandT rfl hB) hb))) rfl))
          · intro l R27q hle ha hd
            obtain ⟨d0, d1, _⟩ := hd
            have f161 : l 161 = (.bool ((decide (y232.2 ≠ o274)) || (decide (y242.2 ≠ o274)))) := d0 rfl
            have f179g : phG (true && (((decide (y232.2 ≠ o274)) || (decide (y242.2 ≠ o274))) == false)) (phX (.bool ((decide (o274 ≠ 0)) && (((decide (¬ (y232.1.to = ((y307.getD default).to) ∧ y232.1.out = ((y307.getD default).out)))) || (decide (y242.1.inputs ≠ 0))) || (decide ((↑y242.1.rows.length : Int) ≠ 0)))))) (l 179) R27q := d1 rfl
            exact gstep_plain rfl rfl rfl (ph_val (val_or f161 rfl (fun hb => (show l 179 = (.bool ((decide (o274 ≠ 0)) && (((decide (¬ (y232.1.to = ((y307.getD default).to) ∧ y232.1.out = ((y307.getD default).out)))) || (decide (y242.1.inputs ≠ 0))) || (decide ((↑y242.1.rows.length : Int) ≠ 0))))) from f179g.1 (gandT rfl hb)))))
          · intro l R28q hle ha hd
            obtain ⟨d0, d1, _⟩ := hd
            have f180 : l 180 = (.bool (((decide (y232.2 ≠ o274)) || (decide (y242.2 ≠ o274))) || ((decide (o274 ≠ 0)) && (((decide (¬ (y232.1.to = ((y307.getD default).to) ∧ y232.1.out = ((y307.getD default).out)))) || (decide (y242.1.inputs ≠ 0))) || (decide ((↑y242.1.rows.length : Int) ≠ 0)))))) := d0 rfl
            exact gstep_plain rfl rfl rfl (ph_val (val_move f180))
          · intro l R29q hle ha hd
            obtain ⟨d0, _⟩ := hd
            have a22 : l 22 = (.int .i64 o274) := ha 22 rfl
            exact gstep_guard (Gj := true) (Bj := ((decide (y232.2 ≠ o274)) || (decide (y242.2 ≠ o274))) || ((decide (o274 ≠ 0)) && (((decide (¬ (y232.1.to = ((y307.getD default).to) ∧ y232.1.out = ((y307.getD default).out)))) || (decide (y242.1.inputs ≠ 0))) || (decide ((↑y242.1.rows.length : Int) ≠ 0))))) rfl rfl rfl (gtrue (d0 rfl)) rfl (fun hG hB => ph_val (val_move a22))
          · intro l R30q hle ha hd
            obtain ⟨d0, d1, _⟩ := hd
            have f182g : phG (true && ((((decide (y232.2 ≠ o274)) || (decide (y242.2 ≠ o274))) || ((decide (o274 ≠ 0)) && (((decide (¬ (y232.1.to = ((y307.getD default).to) ∧ y232.1.out = ((y307.getD default).out)))) || (decide (y242.1.inputs ≠ 0))) || (decide ((↑y242.1.rows.length : Int) ≠ 0))))) == false)) (phX (.int .i64 o274)) (l 182) R30q := d0 rfl
            exact gstep_guard (Gj := true) (Bj := ((decide (y232.2 ≠ o274)) || (decide (y242.2 ≠ o274))) || ((decide (o274 ≠ 0)) && (((decide (¬ (y232.1.to = ((y307.getD default).to) ∧ y232.1.out = ((y307.getD default).out)))) || (decide (y242.1.inputs ≠ 0))) || (decide ((↑y242.1.rows.length : Int) ≠ 0))))) rfl rfl rfl (gtrue (d1 rfl)) rfl (fun hG hB => ph_val (val_eql (show l 182 = (.int .i64 o274) from f182g.1 (gandT rfl hB)) rfl))
          · intro l R31q hle ha hd
            obtain ⟨d0, d1, d2, _⟩ := hd
            have f183g : phG (true && ((((decide (y232.2 ≠ o274)) || (decide (y242.2 ≠ o274))) || ((decide (o274 ≠ 0)) && (((decide (¬ (y232.1.to = ((y307.getD default).to) ∧ y232.1.out = ((y307.getD default).out)))) || (decide (y242.1.inputs ≠ 0))) || (decide ((↑y242.1.rows.length : Int) ≠ 0))))) == false)) (phX (.bool (decide (o274 = 0)))) (l 183) R31q := d0 rfl
            exact gstep_guard (Gj := true) (Bj := ((decide (y232.2 ≠ o274)) || (decide (y242.2 ≠ o274))) || ((decide (o274 ≠ 0)) && (((decide (¬ (y232.1.to = ((y307.getD default).to) ∧ y232.1.out = ((y307.getD default).out)))) || (decide (y242.1.inputs ≠ 0))) || (decide ((↑y242.1.rows.length : Int) ≠ 0))))) rfl rfl rfl (gtrue (d1 rfl)) rfl (fun hG hB => ph_val (val_move (show l 183 = (.bool (decide (o274 = 0))) from f183g.1 (gandT rfl hB))))
          · intro l R32q hle ha hd
            obtain ⟨d0, _⟩ := hd
            have a18 : l 18 = (.pointer (some ⟨b238, 0, none⟩)) := ha 18 rfl
            exact gstep_guard (Gj := (true && ((((decide (y232.2 ≠ o274)) || (decide (y242.2 ≠ o274))) || ((decide (o274 ≠ 0)) && (((decide (¬ (y232.1.to = ((y307.getD default).to) ∧ y232.1.out = ((y307.getD default).out)))) || (decide (y242.1.inputs ≠ 0))) || (decide ((↑y242.1.rows.length : Int) ≠ 0))))) == false))) (Bj := decide (o274 = 0)) rfl rfl rfl (d0 rfl) rfl (fun hG hB => ph_val (val_loadBA (i := 0) ag40 sz40 a18 rfl rfl rfl))
          · intro l R33q hle ha hd
            obtain ⟨d0, _⟩ := hd
            have a3 : l 3 = v1 := ha 3 rfl
            exact gstep_guard (Gj := (true && ((((decide (y232.2 ≠ o274)) || (decide (y242.2 ≠ o274))) || ((decide (o274 ≠ 0)) && (((decide (¬ (y232.1.to = ((y307.getD default).to) ∧ y232.1.out = ((y307.getD default).out)))) || (decide (y242.1.inputs ≠ 0))) || (decide ((↑y242.1.rows.length : Int) ≠ 0))))) == false))) (Bj := decide (o274 = 0)) rfl rfl rfl (d0 rfl) rfl (fun hG hB => ph_fieldR fd27_2 pt_Mach2 a3 ((h2.mono ((((((((((((le8.trans le12).trans le37).trans le45).trans le53).trans le61).trans le69).trans le77).trans le182).trans le197).trans le237).trans le246).trans le276)).mono hle))
          · intro l R34q hle ha hd
            obtain ⟨d0, d1, _⟩ := hd
            have f186g : phG ((true && ((((decide (y232.2 ≠ o274)) || (decide (y242.2 ≠ o274))) || ((decide (o274 ≠ 0)) && (((decide (¬ (y232.1.to = ((y307.getD default).to) ∧ y232.1.out = ((y307.getD default).out)))) || (decide (y242.1.inputs ≠ 0))) || (decide ((↑y242.1.rows.length : Int) ≠ 0))))) == false)) && ((decide (o274 = 0)) == true)) (phP (tSl false (tSl false kEdge)) m.rows) (l 186) R34q := d0 rfl
            exact gstep_guard (Gj := (true && ((((decide (y232.2 ≠ o274)) || (decide (y242.2 ≠ o274))) || ((decide (o274 ≠ 0)) && (((decide (¬ (y232.1.to = ((y307.getD default).to) ∧ y232.1.out = ((y307.getD default).out)))) || (decide (y242.1.inputs ≠ 0))) || (decide ((↑y242.1.rows.length : Int) ≠ 0))))) == false))) (Bj := decide (o274 = 0)) rfl rfl rfl (d1 rfl) rfl (fun hG hB => ph_loadR ty25 rfl (f186g.1 (gandT hG hB)))
          · intro l R35q hle ha hd
            obtain ⟨d0, _⟩ := hd
            have a16 : l 16 = (.int .i64 place.1) := ha 16 rfl
            exact gstep_guard (Gj := (true && ((((decide (y232.2 ≠ o274)) || (decide (y242.2 ≠ o274))) || ((decide (o274 ≠ 0)) && (((decide (¬ (y232.1.to = ((y307.getD default).to) ∧ y232.1.out = ((y307.getD default).out)))) || (decide (y242.1.inputs ≠ 0))) || (decide ((↑y242.1.rows.length : Int) ≠ 0))))) == false))) (Bj := decide (o274 = 0)) rfl rfl rfl (d0 rfl) rfl (fun hG hB => ph_val (val_move a16))
          · intro l R36q hle ha hd
            obtain ⟨d0, d1, d2, _⟩ := hd
            have f187g : phG ((true && ((((decide (y232.2 ≠ o274)) || (decide (y242.2 ≠ o274))) || ((decide (o274 ≠ 0)) && (((decide (¬ (y232.1.to = ((y307.getD default).to) ∧ y232.1.out = ((y307.getD default).out)))) || (decide (y242.1.inputs ≠ 0))) || (decide ((↑y242.1.rows.length : Int) ≠ 0))))) == false)) && ((decide (o274 = 0)) == true)) (phR (tSl false (tSl false kEdge)) m.rows) (l 187) R36q := d0 rfl
            have f188g : phG ((true && ((((decide (y232.2 ≠ o274)) || (decide (y242.2 ≠ o274))) || ((decide (o274 ≠ 0)) && (((decide (¬ (y232.1.to = ((y307.getD default).to) ∧ y232.1.out = ((y307.getD default).out)))) || (decide (y242.1.inputs ≠ 0))) || (decide ((↑y242.1.rows.length : Int) ≠ 0))))) == false)) && ((decide (o274 = 0)) == true)) (phX (.int .i64 place.1)) (l 188) R36q := d1 rfl
            exact gstep_guard (Gj := (true && ((((decide (y232.2 ≠ o274)) || (decide (y242.2 ≠ o274))) || ((decide (o274 ≠ 0)) && (((decide (¬ (y232.1.to = ((y307.getD default).to) ∧ y232.1.out = ((y307.getD default).out)))) || (decide (y242.1.inputs ≠ 0))) || (decide ((↑y242.1.rows.length : Int) ≠ 0))))) == false))) (Bj := decide (o274 = 0)) rfl rfl rfl (d2 rfl) rfl (fun hG hB => ph_indexR (i := place.1.toNat) sl25 rfl (sl_s (f187g.1 (gandT hG hB))) (idx_nonneg (show l 188 = (.int .i64 place.1) from f188g.1 (gandT hG hB)) (g309 (gandT hG hB)).1) (okI_lt (g309 (gandT hG hB))))
          · intro l R37q hle ha hd
            obtain ⟨d0, d1, _⟩ := hd
            have f189g : phG ((true && ((((decide (y232.2 ≠ o274)) || (decide (y242.2 ≠ o274))) || ((decide (o274 ≠ 0)) && (((decide (¬ (y232.1.to = ((y307.getD default).to) ∧ y232.1.out = ((y307.getD default).out)))) || (decide (y242.1.inputs ≠ 0))) || (decide ((↑y242.1.rows.length : Int) ≠ 0))))) == false)) && ((decide (o274 = 0)) == true)) (phP (tSl false kEdge) (ix m.rows place.1)) (l 189) R37q := d0 rfl
            exact gstep_guard (Gj := (true && ((((decide (y232.2 ≠ o274)) || (decide (y242.2 ≠ o274))) || ((decide (o274 ≠ 0)) && (((decide (¬ (y232.1.to = ((y307.getD default).to) ∧ y232.1.out = ((y307.getD default).out)))) || (decide (y242.1.inputs ≠ 0))) || (decide ((↑y242.1.rows.length : Int) ≠ 0))))) == false))) (Bj := decide (o274 = 0)) rfl rfl rfl (d1 rfl) rfl (fun hG hB => ph_loadR ty41 rfl (f189g.1 (gandT hG hB)))
          · intro l R38q hle ha hd
            obtain ⟨d0, _⟩ := hd
            have a17 : l 17 = (.int .i64 place.2) := ha 17 rfl
            exact gstep_guard (Gj := (true && ((((decide (y232.2 ≠ o274)) || (decide (y242.2 ≠ o274))) || ((decide (o274 ≠ 0)) && (((decide (¬ (y232.1.to = ((y307.getD default).to) ∧ y232.1.out = ((y307.getD default).out)))) || (decide (y242.1.inputs ≠ 0))) || (decide ((↑y242.1.rows.length : Int) ≠ 0))))) == false))) (Bj := decide (o274 = 0)) rfl rfl rfl (d0 rfl) rfl (fun hG hB => ph_val (val_move a17))
          · intro l R39q hle ha hd
            obtain ⟨d0, d1, d2, _⟩ := hd
            have f190g : phG ((true && ((((decide (y232.2 ≠ o274)) || (decide (y242.2 ≠ o274))) || ((decide (o274 ≠ 0)) && (((decide (¬ (y232.1.to = ((y307.getD default).to) ∧ y232.1.out = ((y307.getD default).out)))) || (decide (y242.1.inputs ≠ 0))) || (decide ((↑y242.1.rows.length : Int) ≠ 0))))) == false)) && ((decide (o274 = 0)) == true)) (phR (tSl false kEdge) (ix m.rows place.1)) (l 190) R39q := d0 rfl
            have f191g : phG ((true && ((((decide (y232.2 ≠ o274)) || (decide (y242.2 ≠ o274))) || ((decide (o274 ≠ 0)) && (((decide (¬ (y232.1.to = ((y307.getD default).to) ∧ y232.1.out = ((y307.getD default).out)))) || (decide (y242.1.inputs ≠ 0))) || (decide ((↑y242.1.rows.length : Int) ≠ 0))))) == false)) && ((decide (o274 = 0)) == true)) (phX (.int .i64 place.2)) (l 191) R39q := d1 rfl
            exact gstep_guard (Gj := (true && ((((decide (y232.2 ≠ o274)) || (decide (y242.2 ≠ o274))) || ((decide (o274 ≠ 0)) && (((decide (¬ (y232.1.to = ((y307.getD default).to) ∧ y232.1.out = ((y307.getD default).out)))) || (decide (y242.1.inputs ≠ 0))) || (decide ((↑y242.1.rows.length : Int) ≠ 0))))) == false))) (Bj := decide (o274 = 0)) rfl rfl rfl (d2 rfl) rfl (fun hG hB => ph_indexR (i := place.2.toNat) sl41 rfl (sl_s (f190g.1 (gandT hG hB))) (idx_nonneg (show l 191 = (.int .i64 place.2) from f191g.1 (gandT hG hB)) (g310 (gandT hG hB)).1) (okI_lt (g310 (gandT hG hB))))
          · intro l R40q hle ha hd
            obtain ⟨d0, d1, _⟩ := hd
            have f192g : phG ((true && ((((decide (y232.2 ≠ o274)) || (decide (y242.2 ≠ o274))) || ((decide (o274 ≠ 0)) && (((decide (¬ (y232.1.to = ((y307.getD default).to) ∧ y232.1.out = ((y307.getD default).out)))) || (decide (y242.1.inputs ≠ 0))) || (decide ((↑y242.1.rows.length : Int) ≠ 0))))) == false)) && ((decide (o274 = 0)) == true)) (phP kEdge (ix (ix m.rows place.1) place.2)) (l 192) R40q := d0 rfl
            exact gstep_guard (Gj := (true && ((((decide (y232.2 ≠ o274)) || (decide (y242.2 ≠ o274))) || ((decide (o274 ≠ 0)) && (((decide (¬ (y232.1.to = ((y307.getD default).to) ∧ y232.1.out = ((y307.getD default).out)))) || (decide (y242.1.inputs ≠ 0))) || (decide ((↑y242.1.rows.length : Int) ≠ 0))))) == false))) (Bj := decide (o274 = 0)) rfl rfl rfl (d1 rfl) rfl (fun hG hB => ph_exact (ph_loadR ty40 rfl (f192g.1 (gandT hG hB))) (fun _ _ h => vrep_Edge.1 h))
          · intro l R41q hle ha hd
            obtain ⟨d0, d1, d2, _⟩ := hd
            have f185g : phG ((true && ((((decide (y232.2 ≠ o274)) || (decide (y242.2 ≠ o274))) || ((decide (o274 ≠ 0)) && (((decide (¬ (y232.1.to = ((y307.getD default).to) ∧ y232.1.out = ((y307.getD default).out)))) || (decide (y242.1.inputs ≠ 0))) || (decide ((↑y242.1.rows.length : Int) ≠ 0))))) == false)) && ((decide (o274 = 0)) == true)) (phX (.agg #[(.int .i64 y232.1.to), (.int .i64 y232.1.out)])) (l 185) R41q := d0 rfl
            have f193g : phG ((true && ((((decide (y232.2 ≠ o274)) || (decide (y242.2 ≠ o274))) || ((decide (o274 ≠ 0)) && (((decide (¬ (y232.1.to = ((y307.getD default).to) ∧ y232.1.out = ((y307.getD default).out)))) || (decide (y242.1.inputs ≠ 0))) || (decide ((↑y242.1.rows.length : Int) ≠ 0))))) == false)) && ((decide (o274 = 0)) == true)) (phX (enc_Edge (ix (ix m.rows place.1) place.2))) (l 193) R41q := d1 rfl
            exact gstep_guard (Gj := (true && ((((decide (y232.2 ≠ o274)) || (decide (y242.2 ≠ o274))) || ((decide (o274 ≠ 0)) && (((decide (¬ (y232.1.to = ((y307.getD default).to) ∧ y232.1.out = ((y307.getD default).out)))) || (decide (y242.1.inputs ≠ 0))) || (decide ((↑y242.1.rows.length : Int) ≠ 0))))) == false))) (Bj := decide (o274 = 0)) rfl rfl rfl (d2 rfl) rfl (fun hG hB => ph_val (val_neq2 eq40 (show l 185 = (.agg #[(.int .i64 y232.1.to), (.int .i64 y232.1.out)]) from f185g.1 (gandT hG hB)) (show l 193 = (enc_Edge (ix (ix m.rows place.1) place.2)) from f193g.1 (gandT hG hB))))
          · intro l R42q hle ha hd
            obtain ⟨d0, d1, d2, _⟩ := hd
            have f184g : phG (true && ((((decide (y232.2 ≠ o274)) || (decide (y242.2 ≠ o274))) || ((decide (o274 ≠ 0)) && (((decide (¬ (y232.1.to = ((y307.getD default).to) ∧ y232.1.out = ((y307.getD default).out)))) || (decide (y242.1.inputs ≠ 0))) || (decide ((↑y242.1.rows.length : Int) ≠ 0))))) == false)) (phX (.bool (decide (o274 = 0)))) (l 184) R42q := d0 rfl
            have f194g : phG ((true && ((((decide (y232.2 ≠ o274)) || (decide (y242.2 ≠ o274))) || ((decide (o274 ≠ 0)) && (((decide (¬ (y232.1.to = ((y307.getD default).to) ∧ y232.1.out = ((y307.getD default).out)))) || (decide (y242.1.inputs ≠ 0))) || (decide ((↑y242.1.rows.length : Int) ≠ 0))))) == false)) && ((decide (o274 = 0)) == true)) (phX (.bool (decide (¬ (y232.1.to = ((ix (ix m.rows place.1) place.2).to) ∧ y232.1.out = ((ix (ix m.rows place.1) place.2).out)))))) (l 194) R42q := d1 rfl
            exact gstep_guard (Gj := true) (Bj := ((decide (y232.2 ≠ o274)) || (decide (y242.2 ≠ o274))) || ((decide (o274 ≠ 0)) && (((decide (¬ (y232.1.to = ((y307.getD default).to) ∧ y232.1.out = ((y307.getD default).out)))) || (decide (y242.1.inputs ≠ 0))) || (decide ((↑y242.1.rows.length : Int) ≠ 0))))) rfl rfl rfl (gtrue (d2 rfl)) rfl (fun hG hB => ph_val (val_and (show l 184 = (.bool (decide (o274 = 0))) from f184g.1 (gandT rfl hB)) (fun hb => (show l 194 = (.bool (decide (¬ (y232.1.to = ((ix (ix m.rows place.1) place.2).to) ∧ y232.1.out = ((ix (ix m.rows place.1) place.2).out))))) from f194g.1 (gandT (gandT rfl hB) hb))) rfl))
          · intro l R43q hle ha hd
            obtain ⟨d0, d1, _⟩ := hd
            have f181 : l 181 = (.bool (((decide (y232.2 ≠ o274)) || (decide (y242.2 ≠ o274))) || ((decide (o274 ≠ 0)) && (((decide (¬ (y232.1.to = ((y307.getD default).to) ∧ y232.1.out = ((y307.getD default).out)))) || (decide (y242.1.inputs ≠ 0))) || (decide ((↑y242.1.rows.length : Int) ≠ 0)))))) := d0 rfl
            have f195g : phG (true && ((((decide (y232.2 ≠ o274)) || (decide (y242.2 ≠ o274))) || ((decide (o274 ≠ 0)) && (((decide (¬ (y232.1.to = ((y307.getD default).to) ∧ y232.1.out = ((y307.getD default).out)))) || (decide (y242.1.inputs ≠ 0))) || (decide ((↑y242.1.rows.length : Int) ≠ 0))))) == false)) (phX (.bool ((decide (o274 = 0)) && (decide (¬ (y232.1.to = ((ix (ix m.rows place.1) place.2).to) ∧ y232.1.out = ((ix (ix m.rows place.1) place.2).out))))))) (l 195) R43q := d1 rfl
            exact gstep_plain rfl rfl rfl (ph_val (val_or f181 rfl (fun hb => (show l 195 = (.bool ((decide (o274 = 0)) && (decide (¬ (y232.1.to = ((ix (ix m.rows place.1) place.2).to) ∧ y232.1.out = ((ix (ix m.rows place.1) place.2).out)))))) from f195g.1 (gandT rfl hb)))))
          intro v313 h314
          intro v315 h316
          intro v317 h318
          intro v319 h320
          intro v321 h322
          intro v323 h324
          intro v325 h326
          intro v327 h328
          intro v329 h330
          intro v331 h332
          intro v333 h334
          intro v335 h336
          intro v337 h338
          intro v339 h340
          intro v341 h342
          intro v343 h344
          intro v345 h346
          intro v347 h348
          intro v349 h350
          intro v351 h352
          intro v353 h354
          intro v355 h356
          intro v357 h358
          intro v359 h360
          intro v361 h362
          intro v363 h364
          intro v365 h366
          intro v367 h368
          intro v369 h370
          intro v371 h372
          intro v373 h374
          intro v375 h376
          intro v377 h378
          intro v379 h380
          intro v381 h382
          intro v383 h384
          intro v385 h386
          intro v387 h388
          intro v389 h390
          intro v391 h392
          intro v393 h394
          intro v395 h396
          intro v397 h398
          intro v399 h400
          obtain rfl := Eq.symm h314
          obtain rfl := Eq.symm h316
          obtain rfl := Eq.symm h318
          obtain rfl := Eq.symm h320
          obtain rfl := Eq.symm h328
          obtain rfl := Eq.symm h330
          obtain rfl := Eq.symm h368
          obtain rfl := Eq.symm h370
          obtain rfl := Eq.symm h400
          refine wo_nil ?_
          refine wg_cond rfl (fun e401 => ?_) (fun e401 => ?_)
          · replace hd0 := sel_t e401 hd0; clear e401
            refine wg_seq ?_
            refine wg_region ?_
            refine wo_v rfl (val_assign (v := (.bool false)) rfl) ?_
            refine wo_nil ?_
            refine wg_ret ?_
            obtain rfl := Option.some.inj hd0
            refine body_end (D := []) (J := [box b238 [(.int .i64 y232.1.to), (.int .i64 y232.1.out)] 40, box b269 [(.int .i64 y242.1.inputs), (.int .i64 y242.1.outputs), (aggC v253 2)] 27]) (rs := [.tmp 6]) (vs := [(.bool false)]) ((((((((((((((le4.trans le8).trans le12).trans le37).trans le45).trans le53).trans le61).trans le69).trans le77).trans le182).trans le197).trans le237).trans le246).trans le276).trans le312) rfl rfl ⟨rfl, trivial⟩ ?_
            exact ⟨rfl, rfl⟩
          · replace hd0 := sel_f e401 hd0; clear e401
            refine wg_skip ?_
            replace hd0 := bd_some hd0; obtain ⟨o402, hd1, hd0⟩ := hd0
            refine wg_meet (γ := Int) true [197, 198, 199, 200, 201, 202, 7] (fun g => [(7, (.int .i64 g))]) (fun g => [] ++ A) (fun g R => o402 = g ∧ True) ?_ ?_
            ·
              refine wg_seq ?_
              refine wg_region ?_
              refine wo_v rfl (val_move (v := (.int .i64 o195)) rfl) ?_
              refine wo_v rfl (val_eql rfl rfl) ?_
              refine wo_nil ?_
              refine wg_cond rfl (fun e405 => ?_) (fun e405 => ?_)
              · replace hd1 := sel_t e405 hd1; clear e405
                refine wg_region ?_
                refine wo_v rfl (val_move (v := v_w_) rfl) ?_
                refine wo_fieldR rfl fd27_0 pt_Mach0 rfl (h2.mono (((((((((((((le8.trans le12).trans le37).trans le45).trans le53).trans le61).trans le69).trans le77).trans le182).trans le197).trans le237).trans le246).trans le276).trans le312)) fun v406 h407 => ?_
                refine wo_loadR rfl ty3 rfl h407 fun v408 h409 => ?_
                obtain rfl := vrep_int.1 h409
                replace hd1 := bd_some hd1; obtain ⟨y410, c411, hd1⟩ := hd1
                refine wo_callP rfl en34 rfl (c_gauntletref01_Check (h_w_.mono ((((((((((((((le4.trans le8).trans le12).trans le37).trans le45).trans le53).trans le61).trans le69).trans le77).trans le182).trans le197).trans le237).trans le246).trans le276).trans le312)) c411) fun v412 R414 le415 h413 => ?_
                obtain rfl := h413
                refine wo_v rfl (val_assign (v := (.int .i64 y410)) rfl) ?_
                refine wo_nil ?_
                exact ⟨(fun _ => rfl), le415, (by repeat (first | exact off_self | refine off_upd rfl ?_ | refine off_setl rfl ?_ | refine off_mask_sub rfl ?_)), y410, ⟨rfl, trivial⟩, ⟨[box b238 [(.int .i64 y232.1.to), (.int .i64 y232.1.out)] 40, box b269 [(.int .i64 y242.1.inputs), (.int .i64 y242.1.outputs), (aggC v253 2)] 27], (List.Perm.refl _)⟩, (Option.some.inj hd1).symm, trivial⟩
              · replace hd1 := sel_f e405 hd1; clear e405
                refine wg_skip ?_
                exact ⟨(fun _ => rfl), (RH.le.refl _), (by repeat (first | exact off_self | refine off_upd rfl ?_ | refine off_setl rfl ?_ | refine off_mask_sub rfl ?_)), o195, ⟨rfl, trivial⟩, ⟨[box b238 [(.int .i64 y232.1.to), (.int .i64 y232.1.out)] 40, box b269 [(.int .i64 y242.1.inputs), (.int .i64 y242.1.outputs), (aggC v253 2)] 27], (List.Perm.refl _)⟩, (Option.some.inj hd1).symm, trivial⟩
            ·
              rintro o402 j416 D417 R403 hD418 le404 ⟨rfl, _⟩
              obtain rfl := hD418 rfl
              refine wg_seq ?_
              refine wg_region ?_
              refine wo_loadR rfl ty27 rfl (h2.mono ((((((((((((((le8.trans le12).trans le37).trans le45).trans le53).trans le61).trans le69).trans le77).trans le182).trans le197).trans le237).trans le246).trans le276).trans le312).trans le404)) fun v419 h420 => ?_
              refine wo_v rfl (val_move (v := (.int .i64 place.1)) rfl) ?_
              refine wo_v rfl (val_move (v := v_w_) rfl) ?_
              replace hd0 := bd_some hd0; obtain ⟨y421, c422, hd0⟩ := hd0
              refine wo_callP rfl en21 rfl (c_machines_Run h420 (h_w_.mono (((((((((((((((le4.trans le8).trans le12).trans le37).trans le45).trans le53).trans le61).trans le69).trans le77).trans le182).trans le197).trans le237).trans le246).trans le276).trans le312).trans le404)) c422) fun v423 R425 le426 h424 => ?_
              obtain ⟨v427, rfl, h428⟩ := h424
              refine wo_v rfl (val_move (v := (.tuple #[v427, (.int .i64 y421.2)])) rfl) ?_
              refine wo_v rfl (val_extract rfl rfl) ?_
              refine wo_v rfl (val_extract rfl rfl) ?_
              refine wo_v rfl (val_assign (v := v427) rfl) ?_
              refine wo_v rfl (val_assign (v := (.int .i64 y421.2)) rfl) ?_
              refine wo_nil ?_
              refine wg_seq ?_
              refine wg_region ?_
              refine wo_loadR rfl ty27 rfl (h2.mono (((((((((((((((le8.trans le12).trans le37).trans le45).trans le53).trans le61).trans le69).trans le77).trans le182).trans le197).trans le237).trans le246).trans le276).trans le312).trans le404).trans le426)) fun v429 h430 => ?_
              refine wo_v rfl (val_move (v := (.int .i64 place.1)) rfl) ?_
              refine wo_v rfl (val_move (v := v_w_) rfl) ?_
              replace hd0 := bd_some hd0; obtain ⟨y431, c432, hd0⟩ := hd0
              refine wo_callP rfl en22 rfl (c_machines_After h430 (h_w_.mono ((((((((((((((((le4.trans le8).trans le12).trans le37).trans le45).trans le53).trans le61).trans le69).trans le77).trans le182).trans le197).trans le237).trans le246).trans le276).trans le312).trans le404).trans le426)) c432) fun v433 R435 le436 h434 => ?_
              obtain rfl := h434
              refine wo_v rfl (val_move (v := (.tuple #[(.int .i64 y431.1), (.int .i64 y431.2)])) rfl) ?_
              refine wo_v rfl (val_extract rfl rfl) ?_
              refine wo_v rfl (val_extract rfl rfl) ?_
              refine wo_v rfl (val_assign (v := (.int .i64 y431.1)) rfl) ?_
              refine wo_v rfl (val_assign (v := (.int .i64 y431.2)) rfl) ?_
              refine wo_nil ?_
              refine wg_seq ?_
              refine wg_seq ?_
              refine wg_region ?_
              refine wo_v rfl (val_move (v := (.int .i64 o402)) rfl) ?_
              refine wo_v rfl (val_neq rfl rfl) ?_
              refine wo_nil ?_
              refine wg_cond rfl (fun e437 => ?_) (fun e437 => ?_)
              · replace hd0 := sel_t e437 hd0; clear e437
                refine wg_seq ?_
                replace hd0 := bd_some hd0; obtain ⟨y438, c439, hd0⟩ := hd0
                replace hd0 := bd_some hd0; obtain ⟨y440, c441, hd0⟩ := hd0
                refine wg_guarded 17 [] [phX v427, phX (.int .i64 y421.2), phX (.int .i64 o402), phX (.bool y438), phX (.bool y438), phG (true && (y438 == true)) (phX (.int .i64 y431.1)), phG (true && (y438 == true)) (phX (.bool (decide (y431.1 = 0)))), phX (.bool (y438 && (decide (y431.1 = 0)))), phX (.bool (y438 && (decide (y431.1 = 0)))), phG (true && ((y438 && (decide (y431.1 = 0))) == true)) (phX (.int .i64 y431.2)), phG (true && ((y438 && (decide (y431.1 = 0))) == true)) (phX (.int .i64 o402)), phG (true && ((y438 && (decide (y431.1 = 0))) == true)) (phX (.bool (decide (y431.2 = o402)))), phX (.bool ((y438 && (decide (y431.1 = 0))) && (decide (y431.2 = o402)))), phX (.bool ((y438 && (decide (y431.1 = 0))) && (decide (y431.2 = o402)))), phG (true && (((y438 && (decide (y431.1 = 0))) && (decide (y431.2 = o402))) == true)) (phX (.bool (y440.getD default))), phX (.bool (((y438 && (decide (y431.1 = 0))) && (decide (y431.2 = o402))) && (y440.getD default))), phX (.bool (((y438 && (decide (y431.1 = 0))) && (decide (y431.2 = o402))) && (y440.getD default)))] (by kernel_rfl) (by kernel_rfl) (monoOk_of ⟨mono_x, mono_x, mono_x, mono_x, mono_x, (mono_g mono_x), (mono_g mono_x), mono_x, mono_x, (mono_g mono_x), (mono_g mono_x), (mono_g mono_x), mono_x, mono_x, (mono_g mono_x), mono_x, mono_x, trivial⟩) ⟨?_, ?_, ?_, ?_, ?_, ?_, ?_, ?_, ?_, ?_, ?_, ?_, ?_, ?_, ?_, ?_, ?_, trivial⟩ fun R442 le443 => ?_
                · intro l R0q hle ha hd
                  have a23 : l 23 = v427 := ha 23 rfl
                  exact gstep_plain rfl rfl rfl (ph_val (val_move a23))
                · intro l R1q hle ha hd
                  have a24 : l 24 = (.int .i64 y421.2) := ha 24 rfl
                  exact gstep_plain rfl rfl rfl (ph_val (val_move a24))
                · intro l R2q hle ha hd
                  have a7 : l 7 = (.int .i64 o402) := ha 7 rfl
                  exact gstep_plain rfl rfl rfl (ph_val (val_move a7))
                · intro l R3q hle ha hd
                  obtain ⟨d0, d1, d2, _⟩ := hd
                  have f219 : l 219 = v427 := d0 rfl
                  have f220 : l 220 = (.int .i64 y421.2) := d1 rfl
                  have f221 : l 221 = (.int .i64 o402) := d2 rfl
                  exact gstep_plain rfl rfl rfl (ph_callP en23 (by simp only [List.map, ev, f219, f220, f221] <;> rfl) (c_gauntletlaw04_list ((h428.mono le436).mono hle) sl_nil c439) (fun _ _ h => h))
                · intro l R4q hle ha hd
                  obtain ⟨d0, d1, _⟩ := hd
                  have f222 : l 222 = (.bool y438) := d0 rfl
                  exact gstep_plain rfl rfl rfl (ph_val (val_move f222))
                · intro l R5q hle ha hd
                  obtain ⟨d0, _⟩ := hd
                  have a25 : l 25 = (.int .i64 y431.1) := ha 25 rfl
                  exact gstep_guard (Gj := true) (Bj := y438) rfl rfl rfl (gtrue (d0 rfl)) rfl (fun hG hB => ph_val (val_move a25))
                · intro l R6q hle ha hd
                  obtain ⟨d0, d1, _⟩ := hd
                  have f224g : phG (true && (y438 == true)) (phX (.int .i64 y431.1)) (l 224) R6q := d0 rfl
                  exact gstep_guard (Gj := true) (Bj := y438) rfl rfl rfl (gtrue (d1 rfl)) rfl (fun hG hB => ph_val (val_eql (show l 224 = (.int .i64 y431.1) from f224g.1 (gandT rfl hB)) rfl))
                · intro l R7q hle ha hd
                  obtain ⟨d0, d1, _⟩ := hd
                  have f223 : l 223 = (.bool y438) := d0 rfl
                  have f225g : phG (true && (y438 == true)) (phX (.bool (decide (y431.1 = 0)))) (l 225) R7q := d1 rfl
                  exact gstep_plain rfl rfl rfl (ph_val (val_and f223 (fun hb => (show l 225 = (.bool (decide (y431.1 = 0))) from f225g.1 (gandT rfl hb))) rfl))
                · intro l R8q hle ha hd
                  obtain ⟨d0, d1, _⟩ := hd
                  have f226 : l 226 = (.bool (y438 && (decide (y431.1 = 0)))) := d0 rfl
                  exact gstep_plain rfl rfl rfl (ph_val (val_move f226))
                · intro l R9q hle ha hd
                  obtain ⟨d0, _⟩ := hd
                  have a26 : l 26 = (.int .i64 y431.2) := ha 26 rfl
                  exact gstep_guard (Gj := true) (Bj := y438 && (decide (y431.1 = 0))) rfl rfl rfl (gtrue (d0 rfl)) rfl (fun hG hB => ph_val (val_move a26))
                · intro l R10q hle ha hd
                  obtain ⟨d0, _⟩ := hd
                  have a7 : l 7 = (.int .i64 o402) := ha 7 rfl
                  exact gstep_guard (Gj := true) (Bj := y438 && (decide (y431.1 = 0))) rfl rfl rfl (gtrue (d0 rfl)) rfl (fun hG hB => ph_val (val_move a7))
                · intro l R11q hle ha hd
                  obtain ⟨d0, d1, d2, _⟩ := hd
                  have f228g : phG (true && ((y438 && (decide (y431.1 = 0))) == true)) (phX (.int .i64 y431.2)) (l 228) R11q := d0 rfl
                  have f229g : phG (true && ((y438 && (decide (y431.1 = 0))) == true)) (phX (.int .i64 o402)) (l 229) R11q := d1 rfl
                  exact gstep_guard (Gj := true) (Bj := y438 && (decide (y431.1 = 0))) rfl rfl rfl (gtrue (d2 rfl)) rfl (fun hG hB => ph_val (val_eql (show l 228 = (.int .i64 y431.2) from f228g.1 (gandT rfl hB)) (show l 229 = (.int .i64 o402) from f229g.1 (gandT rfl hB))))
                · intro l R12q hle ha hd
                  obtain ⟨d0, d1, _⟩ := hd
                  have f227 : l 227 = (.bool (y438 && (decide (y431.1 = 0)))) := d0 rfl
                  have f230g : phG (true && ((y438 && (decide (y431.1 = 0))) == true)) (phX (.bool (decide (y431.2 = o402)))) (l 230) R12q := d1 rfl
                  exact gstep_plain rfl rfl rfl (ph_val (val_and f227 (fun hb => (show l 230 = (.bool (decide (y431.2 = o402))) from f230g.1 (gandT rfl hb))) rfl))
                · intro l R13q hle ha hd
                  obtain ⟨d0, d1, _⟩ := hd
                  have f231 : l 231 = (.bool ((y438 && (decide (y431.1 = 0))) && (decide (y431.2 = o402)))) := d0 rfl
                  exact gstep_plain rfl rfl rfl (ph_val (val_move f231))
                · intro l R14q hle ha hd
                  obtain ⟨d0, d1, _⟩ := hd
                  exact gstep_guard (Gj := true) (Bj := (y438 && (decide (y431.1 = 0))) && (decide (y431.2 = o402))) rfl rfl rfl (gtrue (d0 rfl)) rfl (fun hG hB => ph_callP en19 rfl (c_gauntletlaw04_lives  (gop_def c441 (gandT hG hB))) (fun _ _ h => h))
                · intro l R15q hle ha hd
                  obtain ⟨d0, d1, _⟩ := hd
                  have f232 : l 232 = (.bool ((y438 && (decide (y431.1 = 0))) && (decide (y431.2 = o402)))) := d0 rfl
                  have f233g : phG (true && (((y438 && (decide (y431.1 = 0))) && (decide (y431.2 = o402))) == true)) (phX (.bool (y440.getD default))) (l 233) R15q := d1 rfl
                  exact gstep_plain rfl rfl rfl (ph_val (val_and f232 (fun hb => (show l 233 = (.bool (y440.getD default)) from f233g.1 (gandT rfl hb))) rfl))
                · intro l R16q hle ha hd
                  obtain ⟨d0, d1, d2, d3, d4, d5, d6, d7, d8, d9, d10, d11, d12, d13, d14, d15, d16, d17, _⟩ := hd
                  have f234 : l 234 = (.bool (((y438 && (decide (y431.1 = 0))) && (decide (y431.2 = o402))) && (y440.getD default))) := d0 rfl
                  exact gstep_plain rfl rfl rfl (ph_val (val_assign f234))
                intro v444 h445
                intro v446 h447
                intro v448 h449
                intro v450 h451
                intro v452 h453
                intro v454 h455
                intro v456 h457
                intro v458 h459
                intro v460 h461
                intro v462 h463
                intro v464 h465
                intro v466 h467
                intro v468 h469
                intro v470 h471
                intro v472 h473
                intro v474 h475
                intro v476 h477
                obtain rfl := Eq.symm h445
                obtain rfl := Eq.symm h447
                obtain rfl := Eq.symm h449
                obtain rfl := Eq.symm h451
                obtain rfl := Eq.symm h453
                obtain rfl := Eq.symm h459
                obtain rfl := Eq.symm h461
                obtain rfl := Eq.symm h469
                obtain rfl := Eq.symm h471
                obtain rfl := Eq.symm h475
                obtain rfl := Eq.symm h477
                refine wo_nil ?_
                refine wg_ret ?_
                obtain rfl := Option.some.inj hd0
                refine body_end (D := []) (J := []) (rs := [.tmp 6]) (vs := [(.bool (((y438 && (decide (y431.1 = 0))) && (decide (y431.2 = o402))) && (y440.getD default)))]) ((((((((((((((((((le4.trans le8).trans le12).trans le37).trans le45).trans le53).trans le61).trans le69).trans le77).trans le182).trans le197).trans le237).trans le246).trans le276).trans le312).trans le404).trans le426).trans le436).trans le443) rfl rfl ⟨rfl, trivial⟩ ?_
                exact ⟨rfl, rfl⟩
              · replace hd0 := sel_f e437 hd0; clear e437
                refine wg_skip ?_
                refine wg_seq ?_
                replace hd0 := bd_some hd0; obtain ⟨y478, c479, hd0⟩ := hd0
                replace hd0 := bd_some hd0; obtain ⟨y480, c481, hd0⟩ := hd0
                replace hd0 := bd_some hd0; obtain ⟨y482, c483, hd0⟩ := hd0
                replace hd0 := bd_some hd0; obtain ⟨y484, c485, hd0⟩ := hd0
                refine wg_guarded 23 [] [phX v427, phX (.int .i64 y421.2), phR (kMach false false) m, phX (.int .i64 place.1), phX v_w_, phR (tSl false (tInt .i64)) y478, phX (.bool y480), phX (.bool y480), phG (true && (y480 == true)) (phX (.int .i64 y431.2)), phG (true && (y480 == true)) (phX (.bool (decide (y431.2 = 0)))), phX (.bool (y480 && (decide (y431.2 = 0)))), phX (.bool (y480 && (decide (y431.2 = 0)))), phG (true && ((y480 && (decide (y431.2 = 0))) == true)) (phX (.int .i64 y431.1)), phG (true && ((y480 && (decide (y431.2 = 0))) == true)) (phR (kMach false false) m), phG (true && ((y480 && (decide (y431.2 = 0))) == true)) (phX (.int .i64 place.1)), phG (true && ((y480 && (decide (y431.2 = 0))) == true)) (phX v_w_), phG (true && ((y480 && (decide (y431.2 = 0))) == true)) (phX (.int .i64 (y482.getD default))), phG (true && ((y480 && (decide (y431.2 = 0))) == true)) (phX (.bool (decide (y431.1 = (y482.getD default))))), phX (.bool ((y480 && (decide (y431.2 = 0))) && (decide (y431.1 = (y482.getD default))))), phX (.bool ((y480 && (decide (y431.2 = 0))) && (decide (y431.1 = (y482.getD default))))), phG (true && (((y480 && (decide (y431.2 = 0))) && (decide (y431.1 = (y482.getD default)))) == true)) (phX (.bool (y484.getD default))), phX (.bool (((y480 && (decide (y431.2 = 0))) && (decide (y431.1 = (y482.getD default)))) && (y484.getD default))), phX (.bool (((y480 && (decide (y431.2 = 0))) && (decide (y431.1 = (y482.getD default)))) && (y484.getD default)))] (by kernel_rfl) (by kernel_rfl) (monoOk_of ⟨mono_x, mono_x, mono_r, mono_x, mono_x, mono_r, mono_x, mono_x, (mono_g mono_x), (mono_g mono_x), mono_x, mono_x, (mono_g mono_x), (mono_g mono_r), (mono_g mono_x), (mono_g mono_x), (mono_g mono_x), (mono_g mono_x), mono_x, mono_x, (mono_g mono_x), mono_x, mono_x, trivial⟩) ⟨?_, ?_, ?_, ?_, ?_, ?_, ?_, ?_, ?_, ?_, ?_, ?_, ?_, ?_, ?_, ?_, ?_, ?_, ?_, ?_, ?_, ?_, ?_, trivial⟩ fun R486 le487 => ?_
                · intro l R0q hle ha hd
                  have a23 : l 23 = v427 := ha 23 rfl
                  exact gstep_plain rfl rfl rfl (ph_val (val_move a23))
                · intro l R1q hle ha hd
                  have a24 : l 24 = (.int .i64 y421.2) := ha 24 rfl
                  exact gstep_plain rfl rfl rfl (ph_val (val_move a24))
                · intro l R2q hle ha hd
                  have a3 : l 3 = v1 := ha 3 rfl
                  exact gstep_plain rfl rfl rfl (ph_loadR ty27 a3 ((h2.mono ((((((((((((((((le8.trans le12).trans le37).trans le45).trans le53).trans le61).trans le69).trans le77).trans le182).trans le197).trans le237).trans le246).trans le276).trans le312).trans le404).trans le426).trans le436)).mono hle))
                · intro l R3q hle ha hd
                  have a16 : l 16 = (.int .i64 place.1) := ha 16 rfl
                  exact gstep_plain rfl rfl rfl (ph_val (val_move a16))
                · intro l R4q hle ha hd
                  have a2 : l 2 = v_w_ := ha 2 rfl
                  exact gstep_plain rfl rfl rfl (ph_val (val_move a2))
                · intro l R5q hle ha hd
                  obtain ⟨d0, d1, d2, _⟩ := hd
                  have f237 : phR (kMach false false) m (l 237) R5q := d0 rfl
                  have f238 : l 238 = (.int .i64 place.1) := d1 rfl
                  have f239 : l 239 = v_w_ := d2 rfl
                  exact gstep_plain rfl rfl rfl (ph_callP en24 (by simp only [List.map, ev, f238, f239] <;> rfl) (c_gauntletref04_Run f237 ((h_w_.mono (((((((((((((((((le4.trans le8).trans le12).trans le37).trans le45).trans le53).trans le61).trans le69).trans le77).trans le182).trans le197).trans le237).trans le246).trans le276).trans le312).trans le404).trans le426).trans le436)).mono hle) c479) (fun _ _ h => h))
                · intro l R6q hle ha hd
                  obtain ⟨d0, d1, d2, d3, _⟩ := hd
                  have f235 : l 235 = v427 := d0 rfl
                  have f236 : l 236 = (.int .i64 y421.2) := d1 rfl
                  have f240 : phR (tSl false (tInt .i64)) y478 (l 240) R6q := d2 rfl
                  exact gstep_plain rfl rfl rfl (ph_callP en23 (by simp only [List.map, ev, f235, f236] <;> rfl) (c_gauntletlaw04_list ((h428.mono le436).mono hle) f240 c481) (fun _ _ h => h))
                · intro l R7q hle ha hd
                  obtain ⟨d0, d1, _⟩ := hd
                  have f241 : l 241 = (.bool y480) := d0 rfl
                  exact gstep_plain rfl rfl rfl (ph_val (val_move f241))
                · intro l R8q hle ha hd
                  obtain ⟨d0, _⟩ := hd
                  have a26 : l 26 = (.int .i64 y431.2) := ha 26 rfl
                  exact gstep_guard (Gj := true) (Bj := y480) rfl rfl rfl (gtrue (d0 rfl)) rfl (fun hG hB => ph_val (val_move a26))
                · intro l R9q hle ha hd
                  obtain ⟨d0, d1, _⟩ := hd
                  have f243g : phG (true && (y480 == true)) (phX (.int .i64 y431.2)) (l 243) R9q := d0 rfl
                  exact gstep_guard (Gj := true) (Bj := y480) rfl rfl rfl (gtrue (d1 rfl)) rfl (fun hG hB => ph_val (val_eql (show l 243 = (.int .i64 y431.2) from f243g.1 (gandT rfl hB)) rfl))
                · intro l R10q hle ha hd
                  obtain ⟨d0, d1, _⟩ := hd
                  have f242 : l 242 = (.bool y480) := d0 rfl
                  have f244g : phG (true && (y480 == true)) (phX (.bool (decide (y431.2 = 0)))) (l 244) R10q := d1 rfl
                  exact gstep_plain rfl rfl rfl (ph_val (val_and f242 (fun hb => (show l 244 = (.bool (decide (y431.2 = 0))) from f244g.1 (gandT rfl hb))) rfl))
                · intro l R11q hle ha hd
                  obtain ⟨d0, d1, _⟩ := hd
                  have f245 : l 245 = (.bool (y480 && (decide (y431.2 = 0)))) := d0 rfl
                  exact gstep_plain rfl rfl rfl (ph_val (val_move f245))
                · intro l R12q hle ha hd
                  obtain ⟨d0, _⟩ := hd
                  have a25 : l 25 = (.int .i64 y431.1) := ha 25 rfl
                  exact gstep_guard (Gj := true) (Bj := y480 && (decide (y431.2 = 0))) rfl rfl rfl (gtrue (d0 rfl)) rfl (fun hG hB => ph_val (val_move a25))
                · intro l R13q hle ha hd
                  obtain ⟨d0, _⟩ := hd
                  have a3 : l 3 = v1 := ha 3 rfl
                  exact gstep_guard (Gj := true) (Bj := y480 && (decide (y431.2 = 0))) rfl rfl rfl (gtrue (d0 rfl)) rfl (fun hG hB => ph_loadR ty27 a3 ((h2.mono ((((((((((((((((le8.trans le12).trans le37).trans le45).trans le53).trans le61).trans le69).trans le77).trans le182).trans le197).trans le237).trans le246).trans le276).trans le312).trans le404).trans le426).trans le436)).mono hle))
                · intro l R14q hle ha hd
                  obtain ⟨d0, _⟩ := hd
                  have a16 : l 16 = (.int .i64 place.1) := ha 16 rfl
                  exact gstep_guard (Gj := true) (Bj := y480 && (decide (y431.2 = 0))) rfl rfl rfl (gtrue (d0 rfl)) rfl (fun hG hB => ph_val (val_move a16))
                · intro l R15q hle ha hd
                  obtain ⟨d0, _⟩ := hd
                  have a2 : l 2 = v_w_ := ha 2 rfl
                  exact gstep_guard (Gj := true) (Bj := y480 && (decide (y431.2 = 0))) rfl rfl rfl (gtrue (d0 rfl)) rfl (fun hG hB => ph_val (val_move a2))
                · intro l R16q hle ha hd
                  obtain ⟨d0, d1, d2, d3, d4, _⟩ := hd
                  have f248g : phG (true && ((y480 && (decide (y431.2 = 0))) == true)) (phR (kMach false false) m) (l 248) R16q := d0 rfl
                  have f249g : phG (true && ((y480 && (decide (y431.2 = 0))) == true)) (phX (.int .i64 place.1)) (l 249) R16q := d1 rfl
                  have f250g : phG (true && ((y480 && (decide (y431.2 = 0))) == true)) (phX v_w_) (l 250) R16q := d2 rfl
                  exact gstep_guard (Gj := true) (Bj := y480 && (decide (y431.2 = 0))) rfl rfl rfl (gtrue (d3 rfl)) rfl (fun hG hB => ph_callP en25 (by simp only [List.map, ev, (show l 249 = (.int .i64 place.1) from f249g.1 (gandT rfl hB)), (show l 250 = v_w_ from f250g.1 (gandT rfl hB))] <;> rfl) (c_gauntletref04_After (f248g.1 (gandT rfl hB)) ((h_w_.mono (((((((((((((((((le4.trans le8).trans le12).trans le37).trans le45).trans le53).trans le61).trans le69).trans le77).trans le182).trans le197).trans le237).trans le246).trans le276).trans le312).trans le404).trans le426).trans le436)).mono hle) (gop_def c483 (gandT hG hB))) (fun _ _ h => h))
                · intro l R17q hle ha hd
                  obtain ⟨d0, d1, d2, _⟩ := hd
                  have f247g : phG (true && ((y480 && (decide (y431.2 = 0))) == true)) (phX (.int .i64 y431.1)) (l 247) R17q := d0 rfl
                  have f251g : phG (true && ((y480 && (decide (y431.2 = 0))) == true)) (phX (.int .i64 (y482.getD default))) (l 251) R17q := d1 rfl
                  exact gstep_guard (Gj := true) (Bj := y480 && (decide (y431.2 = 0))) rfl rfl rfl (gtrue (d2 rfl)) rfl (fun hG hB => ph_val (val_eql (show l 247 = (.int .i64 y431.1) from f247g.1 (gandT rfl hB)) (show l 251 = (.int .i64 (y482.getD default)) from f251g.1 (gandT rfl hB))))
                · intro l R18q hle ha hd
                  obtain ⟨d0, d1, _⟩ := hd
                  have f246 : l 246 = (.bool (y480 && (decide (y431.2 = 0)))) := d0 rfl
                  have f252g : phG (true && ((y480 && (decide (y431.2 = 0))) == true)) (phX (.bool (decide (y431.1 = (y482.getD default))))) (l 252) R18q := d1 rfl
                  exact gstep_plain rfl rfl rfl (ph_val (val_and f246 (fun hb => (show l 252 = (.bool (decide (y431.1 = (y482.getD default)))) from f252g.1 (gandT rfl hb))) rfl))
                · intro l R19q hle ha hd
                  obtain ⟨d0, d1, _⟩ := hd
                  have f253 : l 253 = (.bool ((y480 && (decide (y431.2 = 0))) && (decide (y431.1 = (y482.getD default))))) := d0 rfl
                  exact gstep_plain rfl rfl rfl (ph_val (val_move f253))
                · intro l R20q hle ha hd
                  obtain ⟨d0, d1, _⟩ := hd
                  exact gstep_guard (Gj := true) (Bj := (y480 && (decide (y431.2 = 0))) && (decide (y431.1 = (y482.getD default)))) rfl rfl rfl (gtrue (d0 rfl)) rfl (fun hG hB => ph_callP en19 rfl (c_gauntletlaw04_lives  (gop_def c485 (gandT hG hB))) (fun _ _ h => h))
                · intro l R21q hle ha hd
                  obtain ⟨d0, d1, _⟩ := hd
                  have f254 : l 254 = (.bool ((y480 && (decide (y431.2 = 0))) && (decide (y431.1 = (y482.getD default))))) := d0 rfl
                  have f255g : phG (true && (((y480 && (decide (y431.2 = 0))) && (decide (y431.1 = (y482.getD default)))) == true)) (phX (.bool (y484.getD default))) (l 255) R21q := d1 rfl
                  exact gstep_plain rfl rfl rfl (ph_val (val_and f254 (fun hb => (show l 255 = (.bool (y484.getD default)) from f255g.1 (gandT rfl hb))) rfl))
                · intro l R22q hle ha hd
                  obtain ⟨d0, d1, d2, d3, d4, d5, d6, d7, d8, d9, d10, d11, d12, d13, d14, d15, d16, d17, d18, d19, d20, d21, d22, d23, _⟩ := hd
                  have f256 : l 256 = (.bool (((y480 && (decide (y431.2 = 0))) && (decide (y431.1 = (y482.getD default)))) && (y484.getD default))) := d0 rfl
                  exact gstep_plain rfl rfl rfl (ph_val (val_assign f256))
                intro v488 h489
                intro v490 h491
                intro v492 h493
                intro v494 h495
                intro v496 h497
                intro v498 h499
                intro v500 h501
                intro v502 h503
                intro v504 h505
                intro v506 h507
                intro v508 h509
                intro v510 h511
                intro v512 h513
                intro v514 h515
                intro v516 h517
                intro v518 h519
                intro v520 h521
                intro v522 h523
                intro v524 h525
                intro v526 h527
                intro v528 h529
                intro v530 h531
                intro v532 h533
                obtain rfl := Eq.symm h489
                obtain rfl := Eq.symm h491
                obtain rfl := Eq.symm h495
                obtain rfl := Eq.symm h497
                obtain rfl := Eq.symm h501
                obtain rfl := Eq.symm h503
                obtain rfl := Eq.symm h509
                obtain rfl := Eq.symm h511
                obtain rfl := Eq.symm h525
                obtain rfl := Eq.symm h527
                obtain rfl := Eq.symm h531
                obtain rfl := Eq.symm h533
                refine wo_nil ?_
                refine wg_ret ?_
                obtain rfl := Option.some.inj hd0
                refine body_end (D := []) (J := []) (rs := [.tmp 6]) (vs := [(.bool (((y480 && (decide (y431.2 = 0))) && (decide (y431.1 = (y482.getD default)))) && (y484.getD default)))]) ((((((((((((((((((le4.trans le8).trans le12).trans le37).trans le45).trans le53).trans le61).trans le69).trans le77).trans le182).trans le197).trans le237).trans le246).trans le276).trans le312).trans le404).trans le426).trans le436).trans le487) rfl rfl ⟨rfl, trivial⟩ ?_
                exact ⟨rfl, rfl⟩
end GV
end Go.Proofs.Ytohjnbajgbdhhaa
