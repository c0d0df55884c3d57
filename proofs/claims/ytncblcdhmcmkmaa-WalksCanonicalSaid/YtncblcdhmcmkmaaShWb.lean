/- The walks of the functions; printed. -/
import Derived.Test.YtncblcdhmcmkmaaShWa
import Derived.Test.YtncblcdhmcmkmaaRows
namespace Go.Proofs.Ytncblcdhmcmkmaa
namespace GV
open Go.IntWalk
set_option linter.unusedVariables false
set_option linter.unusedSimpArgs false
set_option maxRecDepth 100000
set_option maxHeartbeats 20000000
theorem en38 : Enters Try.prog 38 := enters_of Try.func38 rfl (by kernel_rfl)
theorem c_walks_Access {N : Nat} {R : RH} {m : Mach} {v_m : Value} (h_m : VRep (kMach false false) R v_m m) {r : (List (List Int)) × (List Bool) × Int} (hd0 : walks_Access N m = some r) : CallP Try.prog 12 #[v_m] R (fun v R' => ∃ u0 u1, v = .tuple #[u0, u1, (.int .i64 r.2.2)] ∧ VRep (tSl true (tSl true (tInt .i64))) R' u0 r.1 ∧ VRep (tSl true tBool) R' u1 r.2.1) := by
  refine callP_of_wg (args := [v_m]) Try.func12 rfl rfl fun A => ?_
  rw [walks_Access] at hd0
  refine wg_seq ?_
  refine wg_region ?_
  refine wo_boxR (T := (kMach false false)) rfl rfl h_m fun v1 R3 le4 h2 => ?_
  refine wo_v rfl (val_assign (v := (.slice none 0 0)) rfl) ?_
  refine wo_v rfl (val_assign (v := (.slice none 0 0)) rfl) ?_
  refine wo_v rfl (val_assign (v := (.int .i64 0)) rfl) ?_
  refine wo_nil ?_
  refine wg_seq ?_
  refine wg_seq ?_
  refine wg_region ?_
  refine wo_loadR rfl ty27 rfl h2 fun v5 h6 => ?_
  replace hd0 := bd_some hd0; obtain ⟨y7, c8, hd0⟩ := hd0
  refine wo_callP rfl en37 rfl (c_machines_Check h6 c8) fun v9 R11 le12 h10 => ?_
  obtain rfl := h10
  refine wo_v rfl (val_assign (v := (.int .i64 y7)) rfl) ?_
  refine wo_nil ?_
  refine wg_seq ?_
  refine wg_region ?_
  refine wo_v rfl (val_move (v := (.int .i64 y7)) rfl) ?_
  refine wo_v rfl (val_neq rfl rfl) ?_
  refine wo_nil ?_
  refine wg_cond rfl (fun e13 => ?_) (fun e13 => ?_)
  · replace hd0 := sel_t e13 hd0; clear e13
    refine wg_seq ?_
    refine wg_region ?_
    refine wo_v rfl (val_move (v := (.int .i64 y7)) rfl) ?_
    refine wo_v rfl (val_assign (v := (.slice none 0 0)) rfl) ?_
    refine wo_v rfl (val_assign (v := (.slice none 0 0)) rfl) ?_
    refine wo_v rfl (val_assign (v := (.int .i64 y7)) rfl) ?_
    refine wo_nil ?_
    refine wg_ret ?_
    obtain rfl := Option.some.inj hd0
    refine body_end (D := []) (J := []) (rs := [.tmp 2, .tmp 3, .tmp 4]) (vs := [(.slice none 0 0), (.slice none 0 0), (.int .i64 y7)]) (le4.trans le12) rfl rfl ⟨rfl, rfl, rfl, trivial⟩ ?_
    exact ⟨rfl, ⟨(.slice none 0 0), (.slice none 0 0), rfl, sl_nil, sl_nil⟩⟩
  · replace hd0 := sel_f e13 hd0; clear e13
    refine wg_skip ?_
    refine wg_seq ?_
    refine wg_region ?_
    refine wo_loadR rfl ty27 rfl (h2.mono le12) fun v14 h15 => ?_
    replace hd0 := bd_some hd0; obtain ⟨y16, c17, hd0⟩ := hd0
    refine wo_callP rfl en38 rfl (c_walks_paths h15 c17) fun v18 R20 le21 h19 => ?_
    obtain ⟨v22, v24, rfl, h23, h25⟩ := h19
    refine wo_v rfl (val_move (v := (.tuple #[v22, v24])) rfl) ?_
    refine wo_v rfl (val_extract rfl rfl) ?_
    refine wo_v rfl (val_extract rfl rfl) ?_
    refine wo_v rfl (val_assign (v := v22) rfl) ?_
    refine wo_v rfl (val_assign (v := v24) rfl) ?_
    refine wo_nil ?_
    refine wg_seq ?_
    refine wg_region ?_
    refine wo_v rfl (val_move (v := v22) rfl) ?_
    refine wo_v rfl (val_move (v := v24) rfl) ?_
    refine wo_v rfl (val_assign (v := v22) rfl) ?_
    refine wo_v rfl (val_assign (v := v24) rfl) ?_
    refine wo_v rfl (val_assign (v := (.int .i64 0)) rfl) ?_
    refine wo_nil ?_
    refine wg_ret ?_
    obtain rfl := Option.some.inj hd0
    refine body_end (D := []) (J := []) (rs := [.tmp 2, .tmp 3, .tmp 4]) (vs := [v22, v24, (.int .i64 0)]) ((le4.trans le12).trans le21) rfl rfl ⟨rfl, rfl, rfl, trivial⟩ ?_
    exact ⟨rfl, ⟨v22, v24, rfl, h23, h25⟩⟩
theorem en12 : Enters Try.prog 12 := enters_of Try.func12 rfl (by kernel_rfl)
theorem c_gauntletref01_Compare {N : Nat} {R : RH} {a : (List Int)} {v_a : Value} (h_a : VRep (tSl false (tInt .i64)) R v_a a) {b : (List Int)} {v_b : Value} (h_b : VRep (tSl false (tInt .i64)) R v_b b) {r : Int} (hd0 : gauntletref01_Compare N a b = some r) : CallP Try.prog 40 #[v_a, v_b] R (fun v R' => v = (.int .i64 r)) := by
  refine callP_of_wg (args := [v_a, v_b]) Try.func40 rfl rfl fun A => ?_
  rw [gauntletref01_Compare] at hd0
  refine wg_seq ?_
  refine wg_region ?_
  refine wo_v rfl (val_assign (v := (.int .i64 0)) rfl) ?_
  refine wo_nil ?_
  refine wg_seq ?_
  refine wg_seq ?_
  refine wg_region ?_
  refine wo_v rfl (val_move (v := v_a) rfl) ?_
  refine wo_v rfl (val_lenR rfl Try.underlying36 rfl (sl_s h_a)) ?_
  refine wo_v rfl (val_move (v := v_b) rfl) ?_
  refine wo_v rfl (val_lenR rfl Try.underlying36 rfl (sl_s h_b)) ?_
  refine wo_v rfl (val_lss rfl rfl) ?_
  refine wo_nil ?_
  refine wg_cond rfl (fun e1 => ?_) (fun e1 => ?_)
  · replace hd0 := sel_t e1 hd0; clear e1
    refine wg_seq ?_
    refine wg_region ?_
    refine wo_v rfl (val_assign (v := (.int .i64 (-1))) rfl) ?_
    refine wo_nil ?_
    refine wg_ret ?_
    obtain rfl := Option.some.inj hd0
    refine body_end (D := []) (J := []) (rs := [.tmp 4]) (vs := [(.int .i64 (-1))]) (RH.le.refl _) rfl rfl ⟨rfl, trivial⟩ ?_
    exact ⟨rfl, rfl⟩
  · replace hd0 := sel_f e1 hd0; clear e1
    refine wg_skip ?_
    refine wg_seq ?_
    refine wg_seq ?_
    refine wg_region ?_
    refine wo_v rfl (val_move (v := v_a) rfl) ?_
    refine wo_v rfl (val_lenR rfl Try.underlying36 rfl (sl_s h_a)) ?_
    refine wo_v rfl (val_move (v := v_b) rfl) ?_
    refine wo_v rfl (val_lenR rfl Try.underlying36 rfl (sl_s h_b)) ?_
    refine wo_v rfl (val_gtr rfl rfl) ?_
    refine wo_nil ?_
    refine wg_cond rfl (fun e2 => ?_) (fun e2 => ?_)
    · replace hd0 := sel_t e2 hd0; clear e2
      refine wg_seq ?_
      refine wg_region ?_
      refine wo_v rfl (val_assign (v := (.int .i64 1)) rfl) ?_
      refine wo_nil ?_
      refine wg_ret ?_
      obtain rfl := Option.some.inj hd0
      refine body_end (D := []) (J := []) (rs := [.tmp 4]) (vs := [(.int .i64 1)]) (RH.le.refl _) rfl rfl ⟨rfl, trivial⟩ ?_
      exact ⟨rfl, rfl⟩
    · replace hd0 := sel_f e2 hd0; clear e2
      refine wg_skip ?_
      replace hd0 := bd_some hd0; obtain ⟨q4, hd1, hd0⟩ := hd0
      refine wg_meet (γ := Unit) true [5, 16, 17, 18, 19, 22, 23, 24, 25, 26, 27, 28, 29, 30, 4, 31, 32, 33, 34, 35, 36, 37, 38, 39, 20, 21] (fun g => []) (fun g => [] ++ A) (fun g R => q4 = Ex.go g ∧ True) ?_ ?_
      ·
        refine wg_seq ?_
        refine wg_region ?_
        refine wo_v rfl (val_assign (v := (.int .i64 0)) rfl) ?_
        refine wo_nil ?_
        refine wg_block ?_
        refine wg_loopS (γ := Nat × Int) true [16, 17, 18, 19, 22, 23, 24, 25, 26, 27, 28, 29, 30, 4, 31, 32, 33, 34, 35, 36, 37, 38, 39, 20, 21, 5] (fun g => [(5, (.int .i64 g.2))]) (fun g => [] ++ A) (fun g R => gauntletref01_Compare_L1 N a b g.1 g.2 = some q4 ∧ True) (fun g => g.1) (N, 0) ⟨rfl, trivial⟩ ⟨[], List.Perm.refl _⟩ ⟨hd1, trivial⟩ (fun _ => rfl) ?_
        clear hd1
        rintro ⟨F7, x8⟩ j59 D60 R9 hD61 le10 ⟨hd1, _⟩
        obtain rfl := hD61 rfl
        rcases F7 with _ | F7
        · exact none_elim hd1
        replace hd1 : gauntletref01_Compare_L1 N a b (F7 + 1) x8 = some q4 := hd1; rw [gauntletref01_Compare_L1] at hd1
        refine wg_seq ?_
        refine wg_seq ?_
        refine wg_region ?_
        refine wo_v rfl (val_move (v := (.int .i64 x8)) rfl) ?_
        refine wo_v rfl (val_move (v := v_a) rfl) ?_
        refine wo_v rfl (val_lenR rfl Try.underlying36 rfl (sl_s (h_a.mono le10))) ?_
        refine wo_v rfl (val_lss rfl rfl) ?_
        refine wo_nil ?_
        refine wg_cond rfl (fun e11 => ?_) (fun e11 => ?_)
        · replace hd1 := sel_t e11 hd1; clear e11
          refine wg_skip ?_
          refine wg_seq ?_
          refine wg_block ?_
          refine wg_seq ?_
          refine wg_seq ?_
          have g12 := (gd_some hd1).1; replace hd1 := (gd_some hd1).2
          have g13 := (gd_some hd1).1; replace hd1 := (gd_some hd1).2
          refine wg_drawn 9 [] [phX v_a, phX (.int .i64 x8), phP (tInt .i64) (ix a x8), phX (.int .i64 (ix a x8)), phX v_b, phX (.int .i64 x8), phP (tInt .i64) (ix b x8), phX (.int .i64 (ix b x8)), phX (.bool (decide ((ix a x8) < (ix b x8))))] mixed (by kernel_rfl) (monoOk_of ⟨mono_x, mono_x, mono_p, mono_x, mono_x, mono_x, mono_p, mono_x, mono_x, trivial⟩) ⟨?_, ?_, ?_, ?_, ?_, ?_, ?_, ?_, ?_, trivial⟩ fun R14 le15 => ?_
          · intro l R0q hle ha hd
            have a0 : l 0 = v_a := ha 0 rfl
            exact gstep_plain rfl rfl rfl (ph_val (val_move a0))
          · intro l R1q hle ha hd
            have a5 : l 5 = (.int .i64 x8) := ha 5 rfl
            exact gstep_plain rfl rfl rfl (ph_val (val_move a5))
          · intro l R2q hle ha hd
            obtain ⟨d0, d1, _⟩ := hd
            have f22 : l 22 = v_a := d0 rfl
            have f23 : l 23 = (.int .i64 x8) := d1 rfl
            exact gstep_plain rfl rfl rfl (ph_indexR (i := x8.toNat) sl36 f22 (sl_s ((h_a.mono le10).mono hle)) (idx_nonneg f23 g12.1) (okI_lt g12))
          · intro l R3q hle ha hd
            obtain ⟨d0, _⟩ := hd
            have f24 : phP (tInt .i64) (ix a x8) (l 24) R3q := d0 rfl
            exact gstep_plain rfl rfl rfl (ph_exact (ph_loadR ty3 rfl f24) (fun _ _ h => vrep_int.1 h))
          · intro l R4q hle ha hd
            have a1 : l 1 = v_b := ha 1 rfl
            exact gstep_plain rfl rfl rfl (ph_val (val_move a1))
          · intro l R5q hle ha hd
            have a5 : l 5 = (.int .i64 x8) := ha 5 rfl
            exact gstep_plain rfl rfl rfl (ph_val (val_move a5))
          · intro l R6q hle ha hd
            obtain ⟨d0, d1, _⟩ := hd
            have f26 : l 26 = v_b := d0 rfl
            have f27 : l 27 = (.int .i64 x8) := d1 rfl
            exact gstep_plain rfl rfl rfl (ph_indexR (i := x8.toNat) sl36 f26 (sl_s ((h_b.mono le10).mono hle)) (idx_nonneg f27 g13.1) (okI_lt g13))
          · intro l R7q hle ha hd
            obtain ⟨d0, _⟩ := hd
            have f28 : phP (tInt .i64) (ix b x8) (l 28) R7q := d0 rfl
            exact gstep_plain rfl rfl rfl (ph_exact (ph_loadR ty3 rfl f28) (fun _ _ h => vrep_int.1 h))
          · intro l R8q hle ha hd
            obtain ⟨d0, d1, _⟩ := hd
            have f25 : l 25 = (.int .i64 (ix a x8)) := d0 rfl
            have f29 : l 29 = (.int .i64 (ix b x8)) := d1 rfl
            exact gstep_plain rfl rfl rfl (ph_val (val_lss f25 f29))
          intro v16 h17
          intro v18 h19
          intro v20 h21
          intro v22 h23
          intro v24 h25
          intro v26 h27
          intro v28 h29
          intro v30 h31
          intro v32 h33
          obtain rfl := Eq.symm h17
          obtain rfl := Eq.symm h19
          obtain rfl := Eq.symm h23
          obtain rfl := Eq.symm h25
          obtain rfl := Eq.symm h27
          obtain rfl := Eq.symm h31
          obtain rfl := Eq.symm h33
          refine wo_nil ?_
          refine wg_cond rfl (fun e34 => ?_) (fun e34 => ?_)
          · replace hd1 := sel_t e34 hd1; clear e34
            refine wg_seq ?_
            refine wg_region ?_
            refine wo_v rfl (val_assign (v := (.int .i64 (-1))) rfl) ?_
            refine wo_nil ?_
            refine wg_ret ?_
            replace hd0 := on_rt hd1 hd0
            obtain rfl := Option.some.inj hd0
            refine body_end (D := []) (J := []) (rs := [.tmp 4]) (vs := [(.int .i64 (-1))]) (le10.trans le15) rfl rfl ⟨rfl, trivial⟩ ?_
            exact ⟨rfl, rfl⟩
          · replace hd1 := sel_f e34 hd1; clear e34
            refine wg_skip ?_
            refine wg_seq ?_
            have g35 := (gd_some hd1).1; replace hd1 := (gd_some hd1).2
            have g36 := (gd_some hd1).1; replace hd1 := (gd_some hd1).2
            refine wg_drawn 9 [] [phX v_a, phX (.int .i64 x8), phP (tInt .i64) (ix a x8), phX (.int .i64 (ix a x8)), phX v_b, phX (.int .i64 x8), phP (tInt .i64) (ix b x8), phX (.int .i64 (ix b x8)), phX (.bool (decide ((ix b x8) < (ix a x8))))] mixed (by kernel_rfl) (monoOk_of ⟨mono_x, mono_x, mono_p, mono_x, mono_x, mono_x, mono_p, mono_x, mono_x, trivial⟩) ⟨?_, ?_, ?_, ?_, ?_, ?_, ?_, ?_, ?_, trivial⟩ fun R37 le38 => ?_
            · intro l R0q hle ha hd
              have a0 : l 0 = v_a := ha 0 rfl
              exact gstep_plain rfl rfl rfl (ph_val (val_move a0))
            · intro l R1q hle ha hd
              have a5 : l 5 = (.int .i64 x8) := ha 5 rfl
              exact gstep_plain rfl rfl rfl (ph_val (val_move a5))
            · intro l R2q hle ha hd
              obtain ⟨d0, d1, _⟩ := hd
              have f31 : l 31 = v_a := d0 rfl
              have f32 : l 32 = (.int .i64 x8) := d1 rfl
              exact gstep_plain rfl rfl rfl (ph_indexR (i := x8.toNat) sl36 f31 (sl_s ((h_a.mono (le10.trans le15)).mono hle)) (idx_nonneg f32 g35.1) (okI_lt g35))
            · intro l R3q hle ha hd
              obtain ⟨d0, _⟩ := hd
              have f33 : phP (tInt .i64) (ix a x8) (l 33) R3q := d0 rfl
              exact gstep_plain rfl rfl rfl (ph_exact (ph_loadR ty3 rfl f33) (fun _ _ h => vrep_int.1 h))
            · intro l R4q hle ha hd
              have a1 : l 1 = v_b := ha 1 rfl
              exact gstep_plain rfl rfl rfl (ph_val (val_move a1))
            · intro l R5q hle ha hd
              have a5 : l 5 = (.int .i64 x8) := ha 5 rfl
              exact gstep_plain rfl rfl rfl (ph_val (val_move a5))
            · intro l R6q hle ha hd
              obtain ⟨d0, d1, _⟩ := hd
              have f35 : l 35 = v_b := d0 rfl
              have f36 : l 36 = (.int .i64 x8) := d1 rfl
              exact gstep_plain rfl rfl rfl (ph_indexR (i := x8.toNat) sl36 f35 (sl_s ((h_b.mono (le10.trans le15)).mono hle)) (idx_nonneg f36 g36.1) (okI_lt g36))
            · intro l R7q hle ha hd
              obtain ⟨d0, _⟩ := hd
              have f37 : phP (tInt .i64) (ix b x8) (l 37) R7q := d0 rfl
              exact gstep_plain rfl rfl rfl (ph_exact (ph_loadR ty3 rfl f37) (fun _ _ h => vrep_int.1 h))
            · intro l R8q hle ha hd
              obtain ⟨d0, d1, _⟩ := hd
              have f34 : l 34 = (.int .i64 (ix a x8)) := d0 rfl
              have f38 : l 38 = (.int .i64 (ix b x8)) := d1 rfl
              exact gstep_plain rfl rfl rfl (ph_val (val_gtr f34 f38))
            intro v39 h40
            intro v41 h42
            intro v43 h44
            intro v45 h46
            intro v47 h48
            intro v49 h50
            intro v51 h52
            intro v53 h54
            intro v55 h56
            obtain rfl := Eq.symm h40
            obtain rfl := Eq.symm h42
            obtain rfl := Eq.symm h46
            obtain rfl := Eq.symm h48
            obtain rfl := Eq.symm h50
            obtain rfl := Eq.symm h54
            obtain rfl := Eq.symm h56
            refine wo_nil ?_
            refine wg_cond rfl (fun e57 => ?_) (fun e57 => ?_)
            · replace hd1 := sel_t e57 hd1; clear e57
              refine wg_seq ?_
              refine wg_region ?_
              refine wo_v rfl (val_assign (v := (.int .i64 1)) rfl) ?_
              refine wo_nil ?_
              refine wg_ret ?_
              replace hd0 := on_rt hd1 hd0
              obtain rfl := Option.some.inj hd0
              refine body_end (D := []) (J := []) (rs := [.tmp 4]) (vs := [(.int .i64 1)]) ((le10.trans le15).trans le38) rfl rfl ⟨rfl, trivial⟩ ?_
              exact ⟨rfl, rfl⟩
            · replace hd1 := sel_f e57 hd1; clear e57
              refine wg_skip ?_
              refine wg_region ?_
              refine wo_v rfl (val_move (v := (.int .i64 x8)) rfl) ?_
              have g58 := (gd_some hd1).1; replace hd1 := (gd_some hd1).2
              refine wo_v rfl (val_add rfl rfl g58) ?_
              refine wo_v rfl (val_assign (v := (.int .i64 (x8 + 1))) rfl) ?_
              refine wo_nil ?_
              exact ⟨(fun _ => rfl), (le15.trans le38), (by repeat (first | exact off_self | refine off_upd rfl ?_ | refine off_setl rfl ?_ | refine off_mask_sub rfl ?_)), (F7, x8 + 1), Nat.lt_succ_self _, ⟨rfl, trivial⟩, ⟨[], List.Perm.refl _⟩, hd1, trivial⟩
        · replace hd1 := sel_f e11 hd1; clear e11
          refine wg_exit ?_
          exact ⟨(fun _ => rfl), le10, (by repeat (first | exact off_self | refine off_upd rfl ?_ | refine off_setl rfl ?_ | refine off_mask_sub rfl ?_)), (), trivial, ⟨[], List.Perm.refl _⟩, (Option.some.inj hd1).symm, trivial⟩
      ·
        rintro o3 j62 D63 R5 hD64 le6 ⟨rfl, _⟩
        obtain rfl := hD64 rfl
        replace hd0 := on_go hd0
        refine wg_seq ?_
        refine wg_region ?_
        refine wo_v rfl (val_assign (v := (.int .i64 0)) rfl) ?_
        refine wo_nil ?_
        refine wg_ret ?_
        obtain rfl := Option.some.inj hd0
        refine body_end (D := []) (J := []) (rs := [.tmp 4]) (vs := [(.int .i64 0)]) le6 rfl rfl ⟨rfl, trivial⟩ ?_
        exact ⟨rfl, rfl⟩
theorem en40 : Enters Try.prog 40 := enters_of Try.func40 rfl (by kernel_rfl)
theorem c_gauntletref01_Same {N : Nat} {R : RH} {a : (List Int)} {v_a : Value} (h_a : VRep (tSl false (tInt .i64)) R v_a a) {b : (List Int)} {v_b : Value} (h_b : VRep (tSl false (tInt .i64)) R v_b b) {r : Bool} (hd0 : gauntletref01_Same N a b = some r) : CallP Try.prog 16 #[v_a, v_b] R (fun v R' => v = (.bool r)) := by
  refine callP_of_wg (args := [v_a, v_b]) Try.func16 rfl rfl fun A => ?_
  rw [gauntletref01_Same] at hd0
  refine wg_seq ?_
  refine wg_region ?_
  refine wo_v rfl (val_assign (v := (.bool false)) rfl) ?_
  refine wo_nil ?_
  refine wg_seq ?_
  refine wg_region ?_
  refine wo_v rfl (val_move (v := v_a) rfl) ?_
  refine wo_v rfl (val_move (v := v_b) rfl) ?_
  replace hd0 := bd_some hd0; obtain ⟨y1, c2, hd0⟩ := hd0
  refine wo_callP rfl en40 rfl (c_gauntletref01_Compare h_a h_b c2) fun v3 R5 le6 h4 => ?_
  obtain rfl := h4
  refine wo_v rfl (val_eql rfl rfl) ?_
  refine wo_v rfl (val_assign (v := (.bool (decide (y1 = 0)))) rfl) ?_
  refine wo_nil ?_
  refine wg_ret ?_
  obtain rfl := Option.some.inj hd0
  refine body_end (D := []) (J := []) (rs := [.tmp 4]) (vs := [(.bool (decide (y1 = 0)))]) le6 rfl rfl ⟨rfl, trivial⟩ ?_
  exact ⟨rfl, rfl⟩
theorem en16 : Enters Try.prog 16 := enters_of Try.func16 rfl (by kernel_rfl)
theorem c_gauntletlaw06_list {N : Nat} {R : RH} {l_ : (List Int)} {v_l_ : Value} (h_l_ : VRep (tSl true (tInt .i64)) R v_l_ l_) {e : Int} {want : (List Int)} {v_want : Value} (h_want : VRep (tSl false (tInt .i64)) R v_want want) {f : Int} {r : Bool} (hd0 : gauntletlaw06_list N l_ e want f = some r) : CallP Try.prog 14 #[v_l_, (.int .i64 e), v_want, (.int .i64 f)] R (fun v R' => v = (.bool r)) := by
  refine callP_of_wg (args := [v_l_, (.int .i64 e), v_want, (.int .i64 f)]) Try.func14 rfl rfl fun A => ?_
  rw [gauntletlaw06_list] at hd0
  refine wg_seq ?_
  refine wg_region ?_
  refine wo_v rfl (val_assign (v := (.bool false)) rfl) ?_
  refine wo_nil ?_
  refine wg_seq ?_
  replace hd0 := bd_some hd0; obtain ⟨y1, c2, hd0⟩ := hd0
  refine wg_guarded 16 [] [phX (.int .i64 e), phX (.int .i64 f), phX (.bool (decide (e = f))), phX (.bool (decide (e = f))), phG (true && ((decide (e = f)) == true)) (phX v_l_), phG (true && ((decide (e = f)) == true)) (phX v_want), phG (true && ((decide (e = f)) == true)) (phX (.bool (y1.getD default))), phX (.bool ((decide (e = f)) && (y1.getD default))), phX (.bool ((decide (e = f)) && (y1.getD default))), phG (true && (((decide (e = f)) && (y1.getD default)) == true)) (phX v_l_), phG (true && (((decide (e = f)) && (y1.getD default)) == true)) (phX (.int .i64 (↑l_.length : Int))), phG (true && (((decide (e = f)) && (y1.getD default)) == true)) (phX v_l_), phG (true && (((decide (e = f)) && (y1.getD default)) == true)) (phX (.int .i64 (↑l_.length : Int))), phG (true && (((decide (e = f)) && (y1.getD default)) == true)) (phX (.bool (decide ((↑l_.length : Int) = (↑l_.length : Int))))), phX (.bool (((decide (e = f)) && (y1.getD default)) && (decide ((↑l_.length : Int) = (↑l_.length : Int))))), phX (.bool (((decide (e = f)) && (y1.getD default)) && (decide ((↑l_.length : Int) = (↑l_.length : Int)))))] (by kernel_rfl) (by kernel_rfl) (monoOk_of ⟨mono_x, mono_x, mono_x, mono_x, (mono_g mono_x), (mono_g mono_x), (mono_g mono_x), mono_x, mono_x, (mono_g mono_x), (mono_g mono_x), (mono_g mono_x), (mono_g mono_x), (mono_g mono_x), mono_x, mono_x, trivial⟩) ⟨?_, ?_, ?_, ?_, ?_, ?_, ?_, ?_, ?_, ?_, ?_, ?_, ?_, ?_, ?_, ?_, trivial⟩ fun R3 le4 => ?_
  · intro l R0q hle ha hd
    have a1 : l 1 = (.int .i64 e) := ha 1 rfl
    exact gstep_plain rfl rfl rfl (ph_val (val_move a1))
  · intro l R1q hle ha hd
    have a3 : l 3 = (.int .i64 f) := ha 3 rfl
    exact gstep_plain rfl rfl rfl (ph_val (val_move a3))
  · intro l R2q hle ha hd
    obtain ⟨d0, d1, _⟩ := hd
    have f9 : l 9 = (.int .i64 e) := d0 rfl
    have f10 : l 10 = (.int .i64 f) := d1 rfl
    exact gstep_plain rfl rfl rfl (ph_val (val_eql f9 f10))
  · intro l R3q hle ha hd
    obtain ⟨d0, _⟩ := hd
    have f11 : l 11 = (.bool (decide (e = f))) := d0 rfl
    exact gstep_plain rfl rfl rfl (ph_val (val_move f11))
  · intro l R4q hle ha hd
    obtain ⟨d0, _⟩ := hd
    have a0 : l 0 = v_l_ := ha 0 rfl
    exact gstep_guard (Gj := true) (Bj := decide (e = f)) rfl rfl rfl (gtrue (d0 rfl)) rfl (fun hG hB => ph_val (val_move a0))
  · intro l R5q hle ha hd
    obtain ⟨d0, _⟩ := hd
    have a2 : l 2 = v_want := ha 2 rfl
    exact gstep_guard (Gj := true) (Bj := decide (e = f)) rfl rfl rfl (gtrue (d0 rfl)) rfl (fun hG hB => ph_val (val_move a2))
  · intro l R6q hle ha hd
    obtain ⟨d0, d1, d2, d3, _⟩ := hd
    have f13g : phG (true && ((decide (e = f)) == true)) (phX v_l_) (l 13) R6q := d0 rfl
    have f14g : phG (true && ((decide (e = f)) == true)) (phX v_want) (l 14) R6q := d1 rfl
    exact gstep_guard (Gj := true) (Bj := decide (e = f)) rfl rfl rfl (gtrue (d2 rfl)) rfl (fun hG hB => ph_callP (vs := [v_l_, v_want]) en16 (by simp only [List.map, ev, (show l 13 = v_l_ from f13g.1 (gandT rfl hB)), (show l 14 = v_want from f14g.1 (gandT rfl hB))] <;> rfl) ((by have z := (gop_def c2 (gandT hG hB)); exact c_gauntletref01_Same (Sub.v (B := (tSl false (tInt .i64))) (sub_sl Sub.refl (fun _ => rfl)) (h_l_.mono hle)) (h_want.mono hle) z)) (fun _ _ h => h))
  · intro l R7q hle ha hd
    obtain ⟨d0, d1, _⟩ := hd
    have f12 : l 12 = (.bool (decide (e = f))) := d0 rfl
    have f15g : phG (true && ((decide (e = f)) == true)) (phX (.bool (y1.getD default))) (l 15) R7q := d1 rfl
    exact gstep_plain rfl rfl rfl (ph_val (val_and f12 (fun hb => (show l 15 = (.bool (y1.getD default)) from f15g.1 (gandT rfl hb))) rfl))
  · intro l R8q hle ha hd
    obtain ⟨d0, d1, _⟩ := hd
    have f16 : l 16 = (.bool ((decide (e = f)) && (y1.getD default))) := d0 rfl
    exact gstep_plain rfl rfl rfl (ph_val (val_move f16))
  · intro l R9q hle ha hd
    obtain ⟨d0, _⟩ := hd
    have a0 : l 0 = v_l_ := ha 0 rfl
    exact gstep_guard (Gj := true) (Bj := (decide (e = f)) && (y1.getD default)) rfl rfl rfl (gtrue (d0 rfl)) rfl (fun hG hB => ph_val (val_move a0))
  · intro l R10q hle ha hd
    obtain ⟨d0, d1, _⟩ := hd
    have f18g : phG (true && (((decide (e = f)) && (y1.getD default)) == true)) (phX v_l_) (l 18) R10q := d0 rfl
    exact gstep_guard (Gj := true) (Bj := (decide (e = f)) && (y1.getD default)) rfl rfl rfl (gtrue (d1 rfl)) rfl (fun hG hB => ph_val (val_capT rfl Try.underlying36 (show l 18 = v_l_ from f18g.1 (gandT rfl hB)) (h_l_.mono hle)))
  · intro l R11q hle ha hd
    obtain ⟨d0, _⟩ := hd
    have a0 : l 0 = v_l_ := ha 0 rfl
    exact gstep_guard (Gj := true) (Bj := (decide (e = f)) && (y1.getD default)) rfl rfl rfl (gtrue (d0 rfl)) rfl (fun hG hB => ph_val (val_move a0))
  · intro l R12q hle ha hd
    obtain ⟨d0, d1, _⟩ := hd
    have f20g : phG (true && (((decide (e = f)) && (y1.getD default)) == true)) (phX v_l_) (l 20) R12q := d0 rfl
    exact gstep_guard (Gj := true) (Bj := (decide (e = f)) && (y1.getD default)) rfl rfl rfl (gtrue (d1 rfl)) rfl (fun hG hB => ph_val (val_lenR rfl Try.underlying36 (show l 20 = v_l_ from f20g.1 (gandT rfl hB)) (sl_s (h_l_.mono hle))))
  · intro l R13q hle ha hd
    obtain ⟨d0, d1, d2, _⟩ := hd
    have f19g : phG (true && (((decide (e = f)) && (y1.getD default)) == true)) (phX (.int .i64 (↑l_.length : Int))) (l 19) R13q := d0 rfl
    have f21g : phG (true && (((decide (e = f)) && (y1.getD default)) == true)) (phX (.int .i64 (↑l_.length : Int))) (l 21) R13q := d1 rfl
    exact gstep_guard (Gj := true) (Bj := (decide (e = f)) && (y1.getD default)) rfl rfl rfl (gtrue (d2 rfl)) rfl (fun hG hB => ph_val (val_eql (show l 19 = (.int .i64 (↑l_.length : Int)) from f19g.1 (gandT rfl hB)) (show l 21 = (.int .i64 (↑l_.length : Int)) from f21g.1 (gandT rfl hB))))
  · intro l R14q hle ha hd
    obtain ⟨d0, d1, _⟩ := hd
    have f17 : l 17 = (.bool ((decide (e = f)) && (y1.getD default))) := d0 rfl
    have f22g : phG (true && (((decide (e = f)) && (y1.getD default)) == true)) (phX (.bool (decide ((↑l_.length : Int) = (↑l_.length : Int))))) (l 22) R14q := d1 rfl
    exact gstep_plain rfl rfl rfl (ph_val (val_and f17 (fun hb => (show l 22 = (.bool (decide ((↑l_.length : Int) = (↑l_.length : Int)))) from f22g.1 (gandT rfl hb))) rfl))
  · intro l R15q hle ha hd
    obtain ⟨d0, d1, d2, d3, d4, d5, d6, d7, d8, d9, d10, d11, d12, d13, d14, d15, d16, _⟩ := hd
    have f23 : l 23 = (.bool (((decide (e = f)) && (y1.getD default)) && (decide ((↑l_.length : Int) = (↑l_.length : Int))))) := d0 rfl
    exact gstep_plain rfl rfl rfl (ph_val (val_assign f23))
  intro v5 h6
  intro v7 h8
  intro v9 h10
  intro v11 h12
  intro v13 h14
  intro v15 h16
  intro v17 h18
  intro v19 h20
  intro v21 h22
  intro v23 h24
  intro v25 h26
  intro v27 h28
  intro v29 h30
  intro v31 h32
  intro v33 h34
  intro v35 h36
  obtain rfl := Eq.symm h6
  obtain rfl := Eq.symm h8
  obtain rfl := Eq.symm h10
  obtain rfl := Eq.symm h12
  obtain rfl := Eq.symm h20
  obtain rfl := Eq.symm h22
  obtain rfl := Eq.symm h34
  obtain rfl := Eq.symm h36
  refine wo_nil ?_
  refine wg_ret ?_
  obtain rfl := Option.some.inj hd0
  refine body_end (D := []) (J := []) (rs := [.tmp 8]) (vs := [(.bool (((decide (e = f)) && (y1.getD default)) && (decide ((↑l_.length : Int) = (↑l_.length : Int)))))]) le4 rfl rfl ⟨rfl, trivial⟩ ?_
  exact ⟨rfl, rfl⟩
theorem en14 : Enters Try.prog 14 := enters_of Try.func14 rfl (by kernel_rfl)
theorem za36 : ∀ w, ∃ z, (zeroValue 36).run Try.prog w = .ok z w ∧ z.cells = ([.slice none 0 0] : List Value).toArray := fun w => ⟨(.slice none 0 0), by kernel_rfl, rfl⟩
theorem ag36 : ∀ w, (isAgg 36).run Try.prog w = .ok false w := fun w => by kernel_rfl
theorem sz36 : ∀ w, (sizeOf 36).run Try.prog w = .ok 1 w := fun w => by kernel_rfl
theorem c_walks_reached {N : Nat} {R : RH} {m : Mach} {v_m : Value} (h_m : VRep (kMach false false) R v_m m) {r : (List Int)} (hd0 : walks_reached N m = some r) : CallP Try.prog 44 #[v_m] R (fun v R' => VRep (tSl false (tInt .i64)) R' v r) := by
  refine callP_of_wg (args := [v_m]) Try.func44 rfl rfl fun A => ?_
  rw [walks_reached] at hd0
  refine wg_seq ?_
  refine wg_region ?_
  refine wo_boxR (T := (kMach false false)) rfl rfl h_m fun v1 R3 le4 h2 => ?_
  refine wo_v rfl (val_assign (v := (.slice none 0 0)) rfl) ?_
  refine wo_nil ?_
  refine wg_seq ?_
  refine wg_region ?_
  refine wo_alloc rfl za36 fun b5 => ?_
  refine wo_nil ?_
  refine wg_seq ?_
  refine wg_seq ?_
  refine wg_region ?_
  refine wo_loadR rfl ty27 rfl h2 fun v7 h8 => ?_
  replace hd0 := bd_some hd0; obtain ⟨y9, c10, hd0⟩ := hd0
  refine wo_callP rfl en58 rfl (c_walks_arrivals h8 c10) fun v11 R13 le14 h12 => ?_
  obtain ⟨v15, v16, rfl, h17, h18⟩ := h12
  refine wo_nil ?_
  refine wg_block ?_
  refine wg_emp ?_
  replace hd0 := bd_some hd0; obtain ⟨o20, c21, hd0⟩ := hd0
  refine wg_iterS (Oc := [emp, box b5 [(.slice none 0 0)] 36]) (Or := A) _ (fun (s : List Int) R O => ∃ (v26 : Value) (f27 : Frag), (∃ J, O.Perm (J ++ [box b5 [v26] 36, f27])) ∧ ORep (tInt .i64) R f27 v26 s ∧ True) (fun (s : List Int) (c : Code) R O => False) _ _ rfl en72 (c_walks_arrivals_1 (N := N) h17 h18) (List.Perm.refl _) (by decide) (by rintro _ _ _ rfl; rfl) (by rintro s R2 R3 O2 hle ⟨v26, f27, hJ, h28, _⟩; exact ⟨v26, f27, hJ, h28.mono hle, trivial⟩) (fun _ _ _ _ _ _ h => h) (fun _ _ _ _ _ h => h.elim) ⟨(.slice none 0 0), emp, ⟨[], (pk 1 rfl (pk 0 rfl (List.Perm.refl _)))⟩, (orep_emp (T := (tInt .i64))), trivial⟩ c21 ?_ ?_ ?_
  ·
    rintro y22 x23 b30 s31 lb32 R33 vs34 Oc35 le36 he37 ⟨v26, f27, ⟨_, hJ⟩, h28, _⟩ hB39 X40
    have hd1 := hB39; clear hB39
    try dsimp only at hd1
    refine wg_junk (perm_mid hJ) ?_
    obtain rfl := he37
    refine wg_region ?_
    refine wo_alloc rfl za102 fun b41 => ?_
    refine wo_store (i := 0) (vs := [(.int .i64 y22.f_state), (.int .i64 y22.f_from), (.int .i64 y22.f_input)]) sz102 rfl rfl rfl rfl rfl rfl (one_cons rfl (one_cons rfl (one_cons rfl one_nil))) ?_
    refine wo_nil ?_
    refine ⟨rfl, rfl, (RH.le.refl _), [box b41 [(.int .i64 y22.f_state), (.int .i64 y22.f_from), (.int .i64 y22.f_input)] 102, box b5 [v26] 36, f27], List.Perm.refl _, fun X43 => ?_⟩
    refine wg_block ?_
    refine wg_region ?_
    refine wo_v rfl (val_loadB (i := 1) ag36 rfl rfl rfl) ?_
    refine wo_v rfl (val_fieldB fd102_0 rfl) ?_
    refine wo_v rfl (val_loadB (i := 0) ag3 rfl rfl rfl) ?_
    refine wo_lit (T := (tInt .i64)) (X := ([y22.f_state] : List Int)) (ps := [(0, (.int .i64 y22.f_state))]) (css := [[(.int .i64 y22.f_state)]]) rfl Try.underlying36 zo3 rfl rfl (lit_reps ⟨rfl, trivial⟩) rfl rfl (by decide) fun v44 f45 cap46 h47 => ?_
    refine wo_freeze (i := 0) rfl h47 fun R49 le50 h51 => ?_
    have h52 : VRep (tSl true (tInt .i64)) R49 v44 ([y22.f_state] : List Int) := (sl_t h51 cap46)
    have g53 := (gd_some hd1).1; replace hd1 := (gd_some hd1).2
    refine wo_append (i := 2) (X := x23) (Y := ([y22.f_state] : List Int)) rfl Try.underlying36 zo3 rfl rfl rfl (h28.mono le50) (sl_s (Sub.v (B := (tSl false (tInt .i64))) (sub_sl Sub.refl (fun _ => rfl)) h52)) g53.1 g53.2 fun v54 f55 h56 => ?_
    refine wo_store (i := 1) (vs := [v54]) sz36 rfl rfl (orep_cells h56) rfl rfl rfl (one_cons (orep_one h56) one_nil) ?_
    refine wo_nil ?_
    obtain ⟨rfl, rfl⟩ := Prod.mk.inj (Option.some.inj hd1)
    exact ⟨rfl, le50, [box b41 [(.int .i64 y22.f_state), (.int .i64 y22.f_from), (.int .i64 y22.f_input)] 102, box b5 [v54] 36, f55], List.Perm.refl _, rfl, ⟨v54, f55, ⟨[box b41 [(.int .i64 y22.f_state), (.int .i64 y22.f_from), (.int .i64 y22.f_input)] 102], (List.Perm.refl _)⟩, h56, trivial⟩⟩
  ·
    rintro D63 R57 Oc64 le58 ⟨v59, f60, ⟨_, hJ⟩, h61, _⟩
    refine ⟨_, _, hJ, ?_⟩
    refine wg_seq ?_
    refine wg_region ?_
    refine wo_v rfl (val_loadB (i := 0) ag36 rfl rfl rfl) ?_
    refine wo_v rfl (val_assign (v := v59) rfl) ?_
    refine wo_nil ?_
    refine wg_freeze (i := 1) rfl h61 fun R65 le66 h67 => ?_
    have h68 : VRep (tSl false (tInt .i64)) R65 v59 o20 := (sl_f h67)
    refine wg_ret ?_
    obtain rfl := Option.some.inj hd0
    refine body_end (D := []) (J := [box b5 [v59] 36]) (rs := [.tmp 2]) (vs := [v59]) (((le4.trans le14).trans le58).trans le66) rfl rfl ⟨rfl, trivial⟩ ?_
    exact ⟨rfl, h68⟩
  ·
    exact fun _ _ _ _ _ h => h.elim
theorem en44 : Enters Try.prog 44 := enters_of Try.func44 rfl (by kernel_rfl)
theorem c_slices_Values_int {N : Nat} {R : RH} {s : (List Int)} {v_s : Value} (h_s : VRep (tSl false (tInt .i64)) R v_s s) {r : (List Int)} (hd0 : slices_Values_int N s = some r) : CallP Try.prog 43 #[v_s] R (fun v R' => ∃ u0, v = .func (.func 62) #[] #[u0] ∧ PRep (tSl false (tInt .i64)) R' u0 r) := by
  refine callP_of_wg (args := [v_s]) Try.func43 rfl rfl fun A => ?_
  rw [slices_Values_int] at hd0
  refine wg_seq ?_
  refine wg_region ?_
  refine wo_boxR (T := (tSl false (tInt .i64))) rfl rfl h_s fun v1 R3 le4 h2 => ?_
  refine wo_v rfl (val_assign (v := .nilFunc) rfl) ?_
  refine wo_nil ?_
  refine wg_seq ?_
  refine wg_region ?_
  refine wo_v rfl (val_makeFuncL (fs := []) (cs := [v1]) rfl rfl) ?_
  refine wo_v rfl (val_assign (v := (.func (.func 62) #[] #[v1])) rfl) ?_
  refine wo_nil ?_
  refine wg_ret ?_
  obtain rfl := Option.some.inj hd0
  refine body_end (D := []) (J := []) (rs := [.tmp 2]) (vs := [(.func (.func 62) #[] #[v1])]) le4 rfl rfl ⟨rfl, trivial⟩ ?_
  exact ⟨rfl, ⟨v1, rfl, h2⟩⟩
theorem en43 : Enters Try.prog 43 := enters_of Try.func43 rfl (by kernel_rfl)
theorem c_slices_Values_int_1 {N : Nat} {R : RH} {p0_ : (List Int)} {v_p0_ : Value} (h_p0_ : PRep (tSl false (tInt .i64)) R v_p0_ p0_) : IterS Try.prog 62 [v_p0_] R (fun (x : Int) vs R => vs = [(.int .i64 x)]) (fun σ B s => slices_Values_int_1 N p0_ σ B s) := by
  intro yv σ B I R1 O s0 s1 hle0 hmI h0 hd0 hy
  refine callG_of_wg (args := [yv, v_p0_]) Try.func62 rfl rfl fun A => ?_
  dsimp only at hd0
  rw [slices_Values_int_1] at hd0
  refine wg_seq ?_
  refine wg_region ?_
  refine wo_loadR rfl ty36 rfl (h_p0_.mono hle0) fun v1 h2 => ?_
  refine wo_v rfl (val_lenR rfl Try.underlying36 rfl (sl_s h2)) ?_
  refine wo_v rfl (val_move (v := (.int .i64 0)) rfl) ?_
  refine wo_nil ?_
  refine wg_block ?_
  refine wg_loopS (γ := Nat × σ × Int × (List Frag)) true [8, 9, 10, 4, 11, 12, 13, 14, 15, 7] (fun g => [(7, (.int .i64 g.2.2.1))]) (fun g => [] ++ (g.2.2.2 ++ A)) (fun g R => slices_Values_int_1_L1 N σ B p0_ g.1 g.2.1 g.2.2.1 = some s1 ∧ I g.2.1 R g.2.2.2 ∧ True) (fun g => g.1) (N, s0, 0, O) ⟨rfl, trivial⟩ ⟨[], List.Perm.refl _⟩ ⟨hd0, h0, trivial⟩ (fun _ => rfl) ?_
  clear hd0
  rintro ⟨F3, x4, x5, OJ8⟩ j24 D25 R6 hD26 le7 ⟨hd0, hi9, _⟩
  obtain rfl := hD26 rfl
  rcases F3 with _ | F3
  · exact none_elim hd0
  replace hd0 : slices_Values_int_1_L1 N σ B p0_ (F3 + 1) x4 x5 = some s1 := hd0; rw [slices_Values_int_1_L1] at hd0
  refine wg_seq ?_
  refine wg_region ?_
  refine wo_v rfl (val_lss rfl rfl) ?_
  refine wo_nil ?_
  refine wg_seq ?_
  refine wg_cond rfl (fun e10 => ?_) (fun e10 => ?_)
  · replace hd0 := sel_t e10 hd0; clear e10
    refine wg_skip ?_
    refine wg_seq ?_
    refine wg_block ?_
    refine wg_seq ?_
    refine wg_region ?_
    have g11 := (gd_some hd0).1; replace hd0 := (gd_some hd0).2
    refine wo_indexR (i := x5.toNat) rfl sl36 rfl (sl_s (h2.mono le7)) (idx_nonneg rfl g11.1) (okI_lt g11) fun v12 h13 => ?_
    refine wo_loadR rfl ty3 rfl h13 fun v14 h15 => ?_
    obtain rfl := vrep_int.1 h15
    refine wo_v rfl (val_assign (v := (.int .i64 (ix p0_ x5))) rfl) ?_
    refine wo_nil ?_
    refine wg_seq ?_
    refine wg_region ?_
    refine wo_v rfl (val_move (v := yv) rfl) ?_
    refine wo_v rfl (val_move (v := (.int .i64 (ix p0_ x5))) rfl) ?_
    replace hd0 := bd_some hd0; obtain ⟨y16, c17, hd0⟩ := hd0
    refine wo_yieldS (vs := [(.int .i64 (ix p0_ x5))]) (J := []) (Oc := OJ8) (A := A) rfl rfl rfl rfl (hy (ix p0_ x5) x4 y16.1 y16.2 _ _ [(.int .i64 (ix p0_ x5))] le7 rfl hi9 c17) fun R18 OJ20 le19 hi21 => ?_
    refine wo_v rfl (val_not rfl) ?_
    refine wo_nil ?_
    refine wg_cond rfl (fun e22 => ?_) (fun e22 => ?_)
    · replace hd0 := sel_t e22 hd0; clear e22
      refine wg_ret ?_
      obtain rfl := Option.some.inj hd0
      refine body_endG (D := []) (J := []) (O' := OJ20) (rs := []) (vs := []) (le7.trans le19) (List.Perm.refl _) rfl trivial ?_
      exact hi21
    · replace hd0 := sel_f e22 hd0; clear e22
      refine wg_skip ?_
      refine wg_region ?_
      have g23 := (gd_some hd0).1; replace hd0 := (gd_some hd0).2
      refine wo_v rfl (val_add rfl rfl g23) ?_
      refine wo_v rfl (val_move (v := (.int .i64 (x5 + 1))) rfl) ?_
      refine wo_nil ?_
      exact ⟨(fun _ => rfl), le19, (by repeat (first | exact off_self | refine off_upd rfl ?_ | refine off_setl rfl ?_ | refine off_mask_sub rfl ?_)), (F3, y16.2, x5 + 1, OJ20), Nat.lt_succ_self _, ⟨rfl, trivial⟩, ⟨[], List.Perm.refl _⟩, hd0, hi21, trivial⟩
  · replace hd0 := sel_f e10 hd0; clear e10
    refine wg_exit ?_
    show bodyQ _ _ _ _ _ .ret _ [] _ _
    obtain rfl := Option.some.inj hd0
    refine body_endG (D := []) (J := []) (O' := OJ8) (rs := []) (vs := []) le7 (List.Perm.refl _) rfl trivial ?_
    exact hi9
theorem en62 : Enters Try.prog 62 := enters_of Try.func62 rfl (by kernel_rfl)
theorem en73 : Enters Try.prog 73 := enters_of Try.func73 rfl (by kernel_rfl)
theorem en60 : Enters Try.prog 60 := enters_of Try.func60 rfl (by kernel_rfl)
theorem c_slices_Sort_int {N : Nat} {R : RH} {x : List Int} {v_x : Value} {f_x : Frag} (h_x : ORep (tInt .i64) R f_x v_x x) {r : List Int} (hd0 : slices_Sort_int N x = some r) : CallG Try.prog 61 #[v_x] R [f_x] (fun v R' O' => ∃ g_x, v = .tuple #[] ∧ O' = [g_x] ∧ ORep (tInt .i64) R' g_x v_x r) := by
  rw [slices_Sort_int] at hd0
  obtain ⟨h0, hd0⟩ := gd_some hd0
  obtain rfl := Option.some.inj hd0
  exact callG_sort Try.lays189 h_x h0
theorem c_slices_AppendSeq_int_o {N : Nat} {R : RH} {s : List Int} {v_s : Value} {f_s : Frag} (h_s : ORep (tInt .i64) R f_s v_s s) {seq_0_ : (List Int)} {v_seq_0_ : Value} (h_seq_0_ : PRep (tSl false (tInt .i64)) R v_seq_0_ seq_0_) {r : (List Int)} (hd0 : slices_AppendSeq_int_o N s seq_0_ = some r) : CallG Try.prog 73 #[v_s, (.func (.func 62) #[] #[v_seq_0_])] R [f_s] (fun v R' O' => ∃ u0_0 g0_0, v = u0_0 ∧ O' = [g0_0] ∧ ORep (tInt .i64) R' g0_0 u0_0 r) := by
  refine callG_of_wg (args := [v_s, (.func (.func 62) #[] #[v_seq_0_])]) Try.func73 rfl rfl fun A => ?_
  rw [slices_AppendSeq_int_o] at hd0
  refine wg_seq ?_
  refine wg_region ?_
  refine wo_box (cs := [v_s]) rfl rfl (orep_cells h_s) fun b1 => ?_
  refine wo_v rfl (val_assign (v := (.slice none 0 0)) rfl) ?_
  refine wo_nil ?_
  refine wg_seq ?_
  refine wg_seq ?_
  refine wg_region ?_
  refine wo_v rfl (val_move (v := (.func (.func 62) #[] #[v_seq_0_])) rfl) ?_
  refine wo_nil ?_
  refine wg_block ?_
  replace hd0 := bd_some hd0; obtain ⟨o3, c4, hd0⟩ := hd0
  refine wg_iterS (Oc := [box b1 [v_s] 36, f_s]) (Or := A) _ (fun (s : List Int) R O => ∃ (v9 : Value) (f10 : Frag), (∃ J, O.Perm (J ++ [f10, box b1 [v9] 36])) ∧ ORep (tInt .i64) R f10 v9 s ∧ True) (fun (s : List Int) (c : Code) R O => False) _ _ rfl en62 (c_slices_Values_int_1 (N := N) h_seq_0_) (List.Perm.refl _) (by decide) (by rintro _ _ _ rfl; rfl) (by rintro s R2 R3 O2 hle ⟨v9, f10, hJ, h11, _⟩; exact ⟨v9, f10, hJ, h11.mono hle, trivial⟩) (fun _ _ _ _ _ _ h => h) (fun _ _ _ _ _ h => h.elim) ⟨v_s, f_s, ⟨[], (pk 1 rfl (pk 0 rfl (List.Perm.refl _)))⟩, h_s, trivial⟩ c4 ?_ ?_ ?_
  ·
    rintro y5 x6 b12 s13 lb14 R15 vs16 Oc17 le18 he19 ⟨v9, f10, ⟨_, hJ⟩, h11, _⟩ hB21 X22
    have hd1 := hB21; clear hB21
    try dsimp only at hd1
    refine wg_junk (perm_mid hJ) ?_
    obtain rfl := he19
    refine wg_region ?_
    refine wo_v rfl (val_assign (v := (.int .i64 y5)) rfl) ?_
    refine wo_nil ?_
    refine ⟨rfl, rfl, (RH.le.refl _), [f10, box b1 [v9] 36], List.Perm.refl _, fun X23 => ?_⟩
    refine wg_block ?_
    refine wg_region ?_
    refine wo_v rfl (val_loadB (i := 1) ag36 rfl rfl rfl) ?_
    refine wo_v rfl (val_move (v := (.int .i64 y5)) rfl) ?_
    refine wo_lit (T := (tInt .i64)) (X := ([y5] : List Int)) (ps := [(0, (.int .i64 y5))]) (css := [[(.int .i64 y5)]]) rfl Try.underlying36 zo3 rfl rfl (lit_reps ⟨rfl, trivial⟩) rfl rfl (by decide) fun v24 f25 cap26 h27 => ?_
    refine wo_freeze (i := 0) rfl h27 fun R29 le30 h31 => ?_
    have h32 : VRep (tSl true (tInt .i64)) R29 v24 ([y5] : List Int) := (sl_t h31 cap26)
    have g33 := (gd_some hd1).1; replace hd1 := (gd_some hd1).2
    refine wo_append (i := 0) (X := x6) (Y := ([y5] : List Int)) rfl Try.underlying36 zo3 rfl rfl rfl (h11.mono le30) (sl_s (Sub.v (B := (tSl false (tInt .i64))) (sub_sl Sub.refl (fun _ => rfl)) h32)) g33.1 g33.2 fun v34 f35 h36 => ?_
    refine wo_store (i := 1) (vs := [v34]) sz36 rfl rfl (orep_cells h36) rfl rfl rfl (one_cons (orep_one h36) one_nil) ?_
    refine wo_nil ?_
    obtain ⟨rfl, rfl⟩ := Prod.mk.inj (Option.some.inj hd1)
    exact ⟨rfl, le30, [f35, box b1 [v34] 36], List.Perm.refl _, rfl, ⟨v34, f35, ⟨[], List.Perm.refl _⟩, h36, trivial⟩⟩
  ·
    rintro D42 R37 Oc43 le38 ⟨v39, f40, ⟨_, hJ⟩, h41, _⟩
    refine ⟨_, _, hJ, ?_⟩
    refine wg_seq ?_
    refine wg_region ?_
    refine wo_v rfl (val_loadB (i := 1) ag36 rfl rfl rfl) ?_
    refine wo_v rfl (val_assign (v := v39) rfl) ?_
    refine wo_nil ?_
    refine wg_ret ?_
    obtain rfl := Option.some.inj hd0
    refine body_endG (D := []) (J := [box b1 [v39] 36]) (O' := [f40]) (rs := [.tmp 4]) (vs := [v39]) le38 ((pk 1 rfl (pk 0 rfl (List.Perm.refl _)))) rfl ⟨rfl, trivial⟩ ?_
    exact ⟨v39, f40, rfl, rfl, h41⟩
  ·
    exact fun _ _ _ _ _ h => h.elim
theorem c_slices_Collect_int_o {N : Nat} {R : RH} {seq_0_ : (List Int)} {v_seq_0_ : Value} (h_seq_0_ : PRep (tSl false (tInt .i64)) R v_seq_0_ seq_0_) {r : (List Int)} (hd0 : slices_Collect_int_o N seq_0_ = some r) : CallG Try.prog 60 #[(.func (.func 62) #[] #[v_seq_0_])] R [] (fun v R' O' => ∃ u0_0 g0_0, v = u0_0 ∧ O' = [g0_0] ∧ ORep (tInt .i64) R' g0_0 u0_0 r) := by
  refine callG_of_wg (args := [(.func (.func 62) #[] #[v_seq_0_])]) Try.func60 rfl rfl fun A => ?_
  rw [slices_Collect_int_o] at hd0
  refine wg_seq ?_
  refine wg_region ?_
  refine wo_v rfl (val_assign (v := (.slice none 0 0)) rfl) ?_
  refine wo_nil ?_
  refine wg_seq ?_
  refine wg_region ?_
  refine wo_v rfl (val_move (v := (.func (.func 62) #[] #[v_seq_0_])) rfl) ?_
  refine wo_emp ?_
  replace hd0 := bd_some hd0; obtain ⟨y2, c3, hd0⟩ := hd0
  refine wo_callO (Oc := [emp]) (Or := [] ++ A) (cs := []) (vs := [(.slice none 0 0), (.func (.func 62) #[] #[v_seq_0_])]) rfl en73 rfl rfl ((pk 0 rfl (List.Perm.refl _))) (c_slices_AppendSeq_int_o (orep_emp (T := (tInt .i64))) h_seq_0_ c3) fun v4 R7 Oc6 le8 h5 => ?_
  obtain ⟨_, f10, rfl, rfl, h11⟩ := h5
  refine wo_v rfl (val_assign (v := v4) rfl) ?_
  refine wo_nil ?_
  refine wg_ret ?_
  obtain rfl := Option.some.inj hd0
  refine body_endG (D := []) (J := []) (O' := [f10]) (rs := [.tmp 2]) (vs := [v4]) le8 ((pk 0 rfl (List.Perm.refl _))) rfl ⟨rfl, trivial⟩ ?_
  exact ⟨v4, f10, rfl, rfl, h11⟩
theorem en61 : Enters Try.prog 61 := enters_of Try.func61 rfl (by kernel_rfl)
theorem c_slices_Sorted_int {N : Nat} {R : RH} {seq_0_ : (List Int)} {v_seq_0_ : Value} (h_seq_0_ : PRep (tSl false (tInt .i64)) R v_seq_0_ seq_0_) {r : (List Int)} (hd0 : slices_Sorted_int N seq_0_ = some r) : CallP Try.prog 42 #[(.func (.func 62) #[] #[v_seq_0_])] R (fun v R' => VRep (tSl false (tInt .i64)) R' v r) := by
  refine callP_of_wg (args := [(.func (.func 62) #[] #[v_seq_0_])]) Try.func42 rfl rfl fun A => ?_
  rw [slices_Sorted_int] at hd0
  refine wg_seq ?_
  refine wg_region ?_
  refine wo_v rfl (val_assign (v := (.slice none 0 0)) rfl) ?_
  refine wo_nil ?_
  refine wg_seq ?_
  refine wg_region ?_
  refine wo_v rfl (val_move (v := (.func (.func 62) #[] #[v_seq_0_])) rfl) ?_
  replace hd0 := bd_some hd0; obtain ⟨y1, c2, hd0⟩ := hd0
  refine wo_callO (Oc := []) (Or := [] ++ A) (cs := []) (vs := [(.func (.func 62) #[] #[v_seq_0_])]) rfl en60 rfl rfl ((List.Perm.refl _)) (c_slices_Collect_int_o h_seq_0_ c2) fun v3 R6 Oc5 le7 h4 => ?_
  obtain ⟨_, f9, rfl, rfl, h10⟩ := h4
  refine wo_v rfl (val_assign (v := v3) rfl) ?_
  refine wo_nil ?_
  refine wg_seq ?_
  refine wg_region ?_
  refine wo_v rfl (val_move (v := v3) rfl) ?_
  replace hd0 := bd_some hd0; obtain ⟨y12, c13, hd0⟩ := hd0
  refine wo_callO (Oc := [f9]) (Or := [] ++ A) (cs := []) (vs := [v3]) rfl en61 rfl rfl ((pk 0 rfl (List.Perm.refl _))) (c_slices_Sort_int h10 c13) fun v14 R17 Oc16 le18 h15 => ?_
  obtain ⟨f19, rfl, rfl, h20⟩ := h15
  refine wo_nil ?_
  refine wg_seq ?_
  refine wg_region ?_
  refine wo_v rfl (val_move (v := v3) rfl) ?_
  refine wo_v rfl (val_assign (v := v3) rfl) ?_
  refine wo_nil ?_
  refine wg_freeze (i := 0) rfl h20 fun R21 le22 h23 => ?_
  have h24 : VRep (tSl false (tInt .i64)) R21 v3 y12 := (sl_f h23)
  refine wg_ret ?_
  obtain rfl := Option.some.inj hd0
  refine body_end (D := []) (J := []) (rs := [.tmp 2]) (vs := [v3]) ((le7.trans le18).trans le22) rfl rfl ⟨rfl, trivial⟩ ?_
  exact ⟨rfl, h24⟩
theorem en42 : Enters Try.prog 42 := enters_of Try.func42 rfl (by kernel_rfl)
theorem c_walks_Reach {N : Nat} {R : RH} {m : Mach} {v_m : Value} (h_m : VRep (kMach false false) R v_m m) {r : (List Int) × Int} (hd0 : walks_Reach N m = some r) : CallP Try.prog 17 #[v_m] R (fun v R' => ∃ u0, v = .tuple #[u0, (.int .i64 r.2)] ∧ VRep (tSl true (tInt .i64)) R' u0 r.1) := by
  refine callP_of_wg (args := [v_m]) Try.func17 rfl rfl fun A => ?_
  rw [walks_Reach] at hd0
  refine wg_seq ?_
  refine wg_region ?_
  refine wo_boxR (T := (kMach false false)) rfl rfl h_m fun v1 R3 le4 h2 => ?_
  refine wo_v rfl (val_assign (v := (.slice none 0 0)) rfl) ?_
  refine wo_v rfl (val_assign (v := (.int .i64 0)) rfl) ?_
  refine wo_nil ?_
  refine wg_seq ?_
  refine wg_seq ?_
  refine wg_region ?_
  refine wo_loadR rfl ty27 rfl h2 fun v5 h6 => ?_
  replace hd0 := bd_some hd0; obtain ⟨y7, c8, hd0⟩ := hd0
  refine wo_callP rfl en37 rfl (c_machines_Check h6 c8) fun v9 R11 le12 h10 => ?_
  obtain rfl := h10
  refine wo_v rfl (val_assign (v := (.int .i64 y7)) rfl) ?_
  refine wo_nil ?_
  refine wg_seq ?_
  refine wg_region ?_
  refine wo_v rfl (val_move (v := (.int .i64 y7)) rfl) ?_
  refine wo_v rfl (val_neq rfl rfl) ?_
  refine wo_nil ?_
  refine wg_cond rfl (fun e13 => ?_) (fun e13 => ?_)
  · replace hd0 := sel_t e13 hd0; clear e13
    refine wg_seq ?_
    refine wg_region ?_
    refine wo_v rfl (val_move (v := (.int .i64 y7)) rfl) ?_
    refine wo_v rfl (val_assign (v := (.slice none 0 0)) rfl) ?_
    refine wo_v rfl (val_assign (v := (.int .i64 y7)) rfl) ?_
    refine wo_nil ?_
    refine wg_ret ?_
    obtain rfl := Option.some.inj hd0
    refine body_end (D := []) (J := []) (rs := [.tmp 2, .tmp 3]) (vs := [(.slice none 0 0), (.int .i64 y7)]) (le4.trans le12) rfl rfl ⟨rfl, rfl, trivial⟩ ?_
    exact ⟨rfl, ⟨(.slice none 0 0), rfl, sl_nil⟩⟩
  · replace hd0 := sel_f e13 hd0; clear e13
    refine wg_skip ?_
    refine wg_seq ?_
    refine wg_region ?_
    refine wo_loadR rfl ty27 rfl (h2.mono le12) fun v14 h15 => ?_
    replace hd0 := bd_some hd0; obtain ⟨y16, c17, hd0⟩ := hd0
    refine wo_callP rfl en44 rfl (c_walks_reached h15 c17) fun v18 R20 le21 h19 => ?_
    replace hd0 := bd_some hd0; obtain ⟨y22, c23, hd0⟩ := hd0
    refine wo_callP rfl en43 rfl (c_slices_Values_int h19 c23) fun v24 R26 le27 h25 => ?_
    obtain ⟨v28, rfl, h29⟩ := h25
    replace hd0 := bd_some hd0; obtain ⟨y30, c31, hd0⟩ := hd0
    refine wo_callP rfl en42 rfl (c_slices_Sorted_int h29 c31) fun v32 R34 le35 h33 => ?_
    replace hd0 := bd_some hd0; obtain ⟨y36, c37, hd0⟩ := hd0
    refine wo_callP rfl en41 rfl (c_slices_Clip_int h33 c37) fun v38 R40 le41 h39 => ?_
    refine wo_v rfl (val_assign (v := v38) rfl) ?_
    refine wo_v rfl (val_assign (v := (.int .i64 0)) rfl) ?_
    refine wo_nil ?_
    refine wg_ret ?_
    obtain rfl := Option.some.inj hd0
    refine body_end (D := []) (J := []) (rs := [.tmp 2, .tmp 3]) (vs := [v38, (.int .i64 0)]) (((((le4.trans le12).trans le21).trans le27).trans le35).trans le41) rfl rfl ⟨rfl, rfl, trivial⟩ ?_
    exact ⟨rfl, ⟨v38, rfl, h39⟩⟩
theorem en17 : Enters Try.prog 17 := enters_of Try.func17 rfl (by kernel_rfl)
theorem c_gauntletlaw06_edge {N : Nat} {R : RH} {to_ : Int} {out : Int} {r : Edge} (hd0 : gauntletlaw06_edge N to_ out = some r) : CallP Try.prog 36 #[(.int .i64 to_), (.int .i64 out)] R (fun v R' => v = (enc_Edge r)) := by
  refine callP_of_wg (args := [(.int .i64 to_), (.int .i64 out)]) Try.func36 rfl rfl fun A => ?_
  rw [gauntletlaw06_edge] at hd0
  refine wg_seq ?_
  refine wg_region ?_
  refine wo_alloc rfl za49 fun b1 => ?_
  refine wo_nil ?_
  refine wg_seq ?_
  refine wg_region ?_
  refine wo_v rfl (val_move (v := (.int .i64 to_)) rfl) ?_
  refine wo_v rfl (val_move (v := (.int .i64 out)) rfl) ?_
  refine wo_v rfl (val_buildL (ps := [(0, (.int .i64 to_)), (1, (.int .i64 out))]) (v := (.agg #[(.int .i64 to_), (.int .i64 out)])) rfl (fun w => by kernel_rfl)) ?_
  refine wo_store (i := 0) (vs := [(.int .i64 to_), (.int .i64 out)]) sz49 rfl rfl rfl rfl rfl rfl (one_cons rfl (one_cons rfl one_nil)) ?_
  refine wo_nil ?_
  refine wg_ret ?_
  obtain rfl := Option.some.inj hd0
  refine body_end (D := []) (J := [box b1 [(.int .i64 to_), (.int .i64 out)] 49]) (rs := [.cell 4 49]) (vs := [(.agg #[(.int .i64 to_), (.int .i64 out)])]) (RH.le.refl _) rfl rfl ⟨⟨_, rfl, fun w hh => run_cellA (i := 0) hh rfl rfl ag49 sz49 rfl rfl⟩, trivial⟩ ?_
  exact ⟨rfl, rfl⟩
theorem en36 : Enters Try.prog 36 := enters_of Try.func36 rfl (by kernel_rfl)
theorem c_slices_IndexFunc_int {N : Nat} {R : RH} {s : (List Int)} {v_s : Value} (h_s : VRep (tSl false (tInt .i64)) R v_s s) {f : Int → Option Bool} {v_f : Value} (h_f : FOk1 Try.prog R v_f (tInt .i64) tBool f) {r : Int} (hd0 : slices_IndexFunc_int N s f = some r) : CallP Try.prog 76 #[v_s, v_f] R (fun v R' => v = (.int .i64 r)) := by
  refine callP_of_wg (args := [v_s, v_f]) Try.func76 rfl rfl fun A => ?_
  rw [slices_IndexFunc_int] at hd0
  refine wg_seq ?_
  refine wg_region ?_
  refine wo_v rfl (val_assign (v := (.int .i64 0)) rfl) ?_
  refine wo_nil ?_
  replace hd0 := bd_some hd0; obtain ⟨q2, hd1, hd0⟩ := hd0
  refine wg_meet (γ := Unit) true [6, 7, 8, 9, 10, 5, 11, 12, 13, 14, 15, 16, 17, 4, 18] (fun g => []) (fun g => [] ++ A) (fun g R => q2 = Ex.go g ∧ True) ?_ ?_
  ·
    refine wg_seq ?_
    refine wg_region ?_
    refine wo_v rfl (val_move (v := v_s) rfl) ?_
    refine wo_v rfl (val_lenR rfl Try.underlying36 rfl (sl_s h_s)) ?_
    refine wo_v rfl (val_move (v := (.int .i64 0)) rfl) ?_
    refine wo_nil ?_
    refine wg_block ?_
    refine wg_loopS (γ := Nat × Int) true [9, 10, 5, 11, 12, 13, 14, 15, 16, 17, 4, 18, 8] (fun g => [(8, (.int .i64 g.2))]) (fun g => [] ++ A) (fun g R => slices_IndexFunc_int_L1 N s f g.1 g.2 = some q2 ∧ True) (fun g => g.1) (N, 0) ⟨rfl, trivial⟩ ⟨[], List.Perm.refl _⟩ ⟨hd1, trivial⟩ (fun _ => rfl) ?_
    clear hd1
    rintro ⟨F5, x6⟩ j23 D24 R7 hD25 le8 ⟨hd1, _⟩
    obtain rfl := hD25 rfl
    rcases F5 with _ | F5
    · exact none_elim hd1
    replace hd1 : slices_IndexFunc_int_L1 N s f (F5 + 1) x6 = some q2 := hd1; rw [slices_IndexFunc_int_L1] at hd1
    refine wg_seq ?_
    refine wg_region ?_
    refine wo_v rfl (val_lss rfl rfl) ?_
    refine wo_nil ?_
    refine wg_seq ?_
    refine wg_cond rfl (fun e9 => ?_) (fun e9 => ?_)
    · replace hd1 := sel_t e9 hd1; clear e9
      refine wg_skip ?_
      refine wg_seq ?_
      refine wg_block ?_
      refine wg_seq ?_
      refine wg_region ?_
      refine wo_v rfl (val_move (v := (.int .i64 x6)) rfl) ?_
      refine wo_v rfl (val_assign (v := (.int .i64 x6)) rfl) ?_
      refine wo_nil ?_
      refine wg_seq ?_
      refine wg_region ?_
      refine wo_v rfl (val_move (v := v_f) rfl) ?_
      refine wo_v rfl (val_move (v := v_s) rfl) ?_
      refine wo_v rfl (val_move (v := (.int .i64 x6)) rfl) ?_
      have g10 := (gd_some hd1).1; replace hd1 := (gd_some hd1).2
      refine wo_indexR (i := x6.toNat) rfl sl36 rfl (sl_s (h_s.mono le8)) (idx_nonneg rfl g10.1) (okI_lt g10) fun v11 h12 => ?_
      refine wo_loadR rfl ty3 rfl h12 fun v13 h14 => ?_
      obtain rfl := vrep_int.1 h14
      replace hd1 := bd_some hd1; obtain ⟨y15, c16, hd1⟩ := hd1
      refine wo_callF rfl rfl rfl ((h_f.mono le8) _ (RH.le.refl _) (ix s x6) _ _ (vrep_int.2 rfl) c16) fun v19 R17 le18 h20 => ?_
      obtain rfl := vrep_bool.1 h20
      refine wo_nil ?_
      refine wg_cond rfl (fun e21 => ?_) (fun e21 => ?_)
      · replace hd1 := sel_t e21 hd1; clear e21
        refine wg_seq ?_
        refine wg_region ?_
        refine wo_v rfl (val_move (v := (.int .i64 x6)) rfl) ?_
        refine wo_v rfl (val_assign (v := (.int .i64 x6)) rfl) ?_
        refine wo_nil ?_
        refine wg_ret ?_
        replace hd0 := on_rt hd1 hd0
        obtain rfl := Option.some.inj hd0
        refine body_end (D := []) (J := []) (rs := [.tmp 4]) (vs := [(.int .i64 x6)]) (le8.trans le18) rfl rfl ⟨rfl, trivial⟩ ?_
        exact ⟨rfl, rfl⟩
      · replace hd1 := sel_f e21 hd1; clear e21
        refine wg_skip ?_
        refine wg_region ?_
        have g22 := (gd_some hd1).1; replace hd1 := (gd_some hd1).2
        refine wo_v rfl (val_add rfl rfl g22) ?_
        refine wo_v rfl (val_move (v := (.int .i64 (x6 + 1))) rfl) ?_
        refine wo_nil ?_
        exact ⟨(fun _ => rfl), le18, (by repeat (first | exact off_self | refine off_upd rfl ?_ | refine off_setl rfl ?_ | refine off_mask_sub rfl ?_)), (F5, x6 + 1), Nat.lt_succ_self _, ⟨rfl, trivial⟩, ⟨[], List.Perm.refl _⟩, hd1, trivial⟩
    · replace hd1 := sel_f e9 hd1; clear e9
      refine wg_exit ?_
      exact ⟨(fun _ => rfl), le8, (by repeat (first | exact off_self | refine off_upd rfl ?_ | refine off_setl rfl ?_ | refine off_mask_sub rfl ?_)), (), trivial, ⟨[], List.Perm.refl _⟩, (Option.some.inj hd1).symm, trivial⟩
  ·
    rintro o1 j26 D27 R3 hD28 le4 ⟨rfl, _⟩
    obtain rfl := hD28 rfl
    replace hd0 := on_go hd0
    refine wg_seq ?_
    refine wg_region ?_
    refine wo_v rfl (val_assign (v := (.int .i64 (-1))) rfl) ?_
    refine wo_nil ?_
    refine wg_ret ?_
    obtain rfl := Option.some.inj hd0
    refine body_end (D := []) (J := []) (rs := [.tmp 4]) (vs := [(.int .i64 (-1))]) le4 rfl rfl ⟨rfl, trivial⟩ ?_
    exact ⟨rfl, rfl⟩
theorem en76 : Enters Try.prog 76 := enters_of Try.func76 rfl (by kernel_rfl)
theorem c_slices_ContainsFunc_int {N : Nat} {R : RH} {s : (List Int)} {v_s : Value} (h_s : VRep (tSl false (tInt .i64)) R v_s s) {f : Int → Option Bool} {v_f : Value} (h_f : FOk1 Try.prog R v_f (tInt .i64) tBool f) {r : Bool} (hd0 : slices_ContainsFunc_int N s f = some r) : CallP Try.prog 63 #[v_s, v_f] R (fun v R' => v = (.bool r)) := by
  refine callP_of_wg (args := [v_s, v_f]) Try.func63 rfl rfl fun A => ?_
  rw [slices_ContainsFunc_int] at hd0
  refine wg_seq ?_
  refine wg_region ?_
  refine wo_v rfl (val_assign (v := (.bool false)) rfl) ?_
  refine wo_nil ?_
  refine wg_seq ?_
  refine wg_region ?_
  refine wo_v rfl (val_move (v := v_s) rfl) ?_
  refine wo_v rfl (val_move (v := v_f) rfl) ?_
  replace hd0 := bd_some hd0; obtain ⟨y1, c2, hd0⟩ := hd0
  refine wo_callP rfl en76 rfl (c_slices_IndexFunc_int h_s h_f c2) fun v3 R5 le6 h4 => ?_
  obtain rfl := h4
  refine wo_v rfl (val_geq rfl rfl) ?_
  refine wo_v rfl (val_assign (v := (.bool (decide (0 ≤ y1)))) rfl) ?_
  refine wo_nil ?_
  refine wg_ret ?_
  obtain rfl := Option.some.inj hd0
  refine body_end (D := []) (J := []) (rs := [.tmp 4]) (vs := [(.bool (decide (0 ≤ y1)))]) le6 rfl rfl ⟨rfl, trivial⟩ ?_
  exact ⟨rfl, rfl⟩
theorem en63 : Enters Try.prog 63 := enters_of Try.func63 rfl (by kernel_rfl)
theorem c_walks_state_1 {N : Nat} {R : RH} {s : Int} {p0_ : Mach} {v_p0_ : Value} (h_p0_ : PRep (kMach false false) R v_p0_ p0_) {r : Bool} (hd0 : walks_state_1 N s p0_ = some r) : CallP Try.prog 64 #[(.int .i64 s), v_p0_] R (fun v R' => v = (.bool r)) := by
  refine callP_of_wg (args := [(.int .i64 s), v_p0_]) Try.func64 rfl rfl fun A => ?_
  rw [walks_state_1] at hd0
  refine wg_seq ?_
  refine wg_region ?_
  refine wo_v rfl (val_assign (v := (.bool false)) rfl) ?_
  refine wo_nil ?_
  refine wg_seq ?_
  refine wg_guarded 10 [] [phX (.int .i64 s), phX (.bool (decide (s < 0))), phX (.bool (decide (s < 0))), phG (true && ((decide (s < 0)) == false)) (phX (.int .i64 s)), phG (true && ((decide (s < 0)) == false)) (phP (tSl false (tSl false kEdge)) p0_.rows), phG (true && ((decide (s < 0)) == false)) (phR (tSl false (tSl false kEdge)) p0_.rows), phG (true && ((decide (s < 0)) == false)) (phX (.int .i64 (↑p0_.rows.length : Int))), phG (true && ((decide (s < 0)) == false)) (phX (.bool (decide ((↑p0_.rows.length : Int) ≤ s)))), phX (.bool ((decide (s < 0)) || (decide ((↑p0_.rows.length : Int) ≤ s)))), phX (.bool ((decide (s < 0)) || (decide ((↑p0_.rows.length : Int) ≤ s))))] (by kernel_rfl) (by kernel_rfl) (monoOk_of ⟨mono_x, mono_x, mono_x, (mono_g mono_x), (mono_g mono_p), (mono_g mono_r), (mono_g mono_x), (mono_g mono_x), mono_x, mono_x, trivial⟩) ⟨?_, ?_, ?_, ?_, ?_, ?_, ?_, ?_, ?_, ?_, trivial⟩ fun R1 le2 => ?_
  · intro l R0q hle ha hd
    have a0 : l 0 = (.int .i64 s) := ha 0 rfl
    exact gstep_plain rfl rfl rfl (ph_val (val_move a0))
  · intro l R1q hle ha hd
    obtain ⟨d0, _⟩ := hd
    have f4 : l 4 = (.int .i64 s) := d0 rfl
    exact gstep_plain rfl rfl rfl (ph_val (val_lss f4 rfl))
  · intro l R2q hle ha hd
    obtain ⟨d0, _⟩ := hd
    have f5 : l 5 = (.bool (decide (s < 0))) := d0 rfl
    exact gstep_plain rfl rfl rfl (ph_val (val_move f5))
  · intro l R3q hle ha hd
    obtain ⟨d0, _⟩ := hd
    have a0 : l 0 = (.int .i64 s) := ha 0 rfl
    exact gstep_guard (Gj := true) (Bj := decide (s < 0)) rfl rfl rfl (gtrue (d0 rfl)) rfl (fun hG hB => ph_val (val_move a0))
  · intro l R4q hle ha hd
    obtain ⟨d0, _⟩ := hd
    have a1 : l 1 = v_p0_ := ha 1 rfl
    exact gstep_guard (Gj := true) (Bj := decide (s < 0)) rfl rfl rfl (gtrue (d0 rfl)) rfl (fun hG hB => ph_fieldR fd27_2 pt_Mach2 a1 (h_p0_.mono hle))
  · intro l R5q hle ha hd
    obtain ⟨d0, d1, _⟩ := hd
    have f8g : phG (true && ((decide (s < 0)) == false)) (phP (tSl false (tSl false kEdge)) p0_.rows) (l 8) R5q := d0 rfl
    exact gstep_guard (Gj := true) (Bj := decide (s < 0)) rfl rfl rfl (gtrue (d1 rfl)) rfl (fun hG hB => ph_loadR ty25 rfl (f8g.1 (gandT rfl hB)))
  · intro l R6q hle ha hd
    obtain ⟨d0, d1, _⟩ := hd
    have f9g : phG (true && ((decide (s < 0)) == false)) (phR (tSl false (tSl false kEdge)) p0_.rows) (l 9) R6q := d0 rfl
    exact gstep_guard (Gj := true) (Bj := decide (s < 0)) rfl rfl rfl (gtrue (d1 rfl)) rfl (fun hG hB => ph_val (val_lenR rfl Try.underlying25 rfl (sl_s (f9g.1 (gandT rfl hB)))))
  · intro l R7q hle ha hd
    obtain ⟨d0, d1, d2, _⟩ := hd
    have f7g : phG (true && ((decide (s < 0)) == false)) (phX (.int .i64 s)) (l 7) R7q := d0 rfl
    have f10g : phG (true && ((decide (s < 0)) == false)) (phX (.int .i64 (↑p0_.rows.length : Int))) (l 10) R7q := d1 rfl
    exact gstep_guard (Gj := true) (Bj := decide (s < 0)) rfl rfl rfl (gtrue (d2 rfl)) rfl (fun hG hB => ph_val (val_geq (show l 7 = (.int .i64 s) from f7g.1 (gandT rfl hB)) (show l 10 = (.int .i64 (↑p0_.rows.length : Int)) from f10g.1 (gandT rfl hB))))
  · intro l R8q hle ha hd
    obtain ⟨d0, d1, _⟩ := hd
    have f6 : l 6 = (.bool (decide (s < 0))) := d0 rfl
    have f11g : phG (true && ((decide (s < 0)) == false)) (phX (.bool (decide ((↑p0_.rows.length : Int) ≤ s)))) (l 11) R8q := d1 rfl
    exact gstep_plain rfl rfl rfl (ph_val (val_or f6 rfl (fun hb => (show l 11 = (.bool (decide ((↑p0_.rows.length : Int) ≤ s))) from f11g.1 (gandT rfl hb)))))
  · intro l R9q hle ha hd
    obtain ⟨d0, d1, d2, d3, d4, d5, d6, d7, d8, d9, d10, _⟩ := hd
    have f12 : l 12 = (.bool ((decide (s < 0)) || (decide ((↑p0_.rows.length : Int) ≤ s)))) := d0 rfl
    exact gstep_plain rfl rfl rfl (ph_val (val_assign f12))
  intro v3 h4
  intro v5 h6
  intro v7 h8
  intro v9 h10
  intro v11 h12
  intro v13 h14
  intro v15 h16
  intro v17 h18
  intro v19 h20
  intro v21 h22
  obtain rfl := Eq.symm h4
  obtain rfl := Eq.symm h6
  obtain rfl := Eq.symm h8
  obtain rfl := Eq.symm h20
  obtain rfl := Eq.symm h22
  refine wo_nil ?_
  refine wg_ret ?_
  obtain rfl := Option.some.inj hd0
  refine body_end (D := []) (J := []) (rs := [.tmp 3]) (vs := [(.bool ((decide (s < 0)) || (decide ((↑p0_.rows.length : Int) ≤ s))))]) le2 rfl rfl ⟨rfl, trivial⟩ ?_
  exact ⟨rfl, rfl⟩
theorem en64 : Enters Try.prog 64 := enters_of Try.func64 rfl (by kernel_rfl)
theorem c_walks_state {N : Nat} {R : RH} {m : Mach} {v_m : Value} (h_m : VRep (kMach false false) R v_m m) {l_ : (List Int)} {v_l_ : Value} (h_l_ : VRep (tSl false (tInt .i64)) R v_l_ l_) {r : Int} (hd0 : walks_state N m l_ = some r) : CallP Try.prog 45 #[v_m, v_l_] R (fun v R' => v = (.int .i64 r)) := by
  refine callP_of_wg (args := [v_m, v_l_]) Try.func45 rfl rfl fun A => ?_
  rw [walks_state] at hd0
  refine wg_seq ?_
  refine wg_region ?_
  refine wo_boxR (T := (kMach false false)) rfl rfl h_m fun v1 R3 le4 h2 => ?_
  refine wo_v rfl (val_assign (v := (.int .i64 0)) rfl) ?_
  refine wo_nil ?_
  refine wg_seq ?_
  refine wg_seq ?_
  refine wg_region ?_
  refine wo_loadR rfl ty27 rfl h2 fun v5 h6 => ?_
  replace hd0 := bd_some hd0; obtain ⟨y7, c8, hd0⟩ := hd0
  refine wo_callP rfl en37 rfl (c_machines_Check h6 c8) fun v9 R11 le12 h10 => ?_
  obtain rfl := h10
  refine wo_v rfl (val_assign (v := (.int .i64 y7)) rfl) ?_
  refine wo_nil ?_
  refine wg_seq ?_
  refine wg_region ?_
  refine wo_v rfl (val_move (v := (.int .i64 y7)) rfl) ?_
  refine wo_v rfl (val_neq rfl rfl) ?_
  refine wo_nil ?_
  refine wg_cond rfl (fun e13 => ?_) (fun e13 => ?_)
  · replace hd0 := sel_t e13 hd0; clear e13
    refine wg_seq ?_
    refine wg_region ?_
    refine wo_v rfl (val_move (v := (.int .i64 y7)) rfl) ?_
    refine wo_v rfl (val_assign (v := (.int .i64 y7)) rfl) ?_
    refine wo_nil ?_
    refine wg_ret ?_
    obtain rfl := Option.some.inj hd0
    refine body_end (D := []) (J := []) (rs := [.tmp 4]) (vs := [(.int .i64 y7)]) (le4.trans le12) rfl rfl ⟨rfl, trivial⟩ ?_
    exact ⟨rfl, rfl⟩
  · replace hd0 := sel_f e13 hd0; clear e13
    refine wg_skip ?_
    refine wg_seq ?_
    refine wg_seq ?_
    refine wg_region ?_
    refine wo_v rfl (val_move (v := v_l_) rfl) ?_
    refine wo_v rfl (val_makeFuncL (fs := []) (cs := [v1]) rfl rfl) ?_
    replace hd0 := bd_some hd0; obtain ⟨y14, c15, hd0⟩ := hd0
    refine wo_callP rfl en63 rfl (c_slices_ContainsFunc_int (h_l_.mono (le4.trans le12)) (fok1_of (cs := [v1]) en64 fun R1 hq z0 u0 y k0 hy => by obtain rfl := vrep_int.1 k0; exact CallP.mono (c_walks_state_1 ((h2.mono le12).mono hq) hy) fun v R2 _ hv => vrep_bool.2 hv) c15) fun v16 R18 le19 h17 => ?_
    obtain rfl := h17
    refine wo_nil ?_
    refine wg_cond rfl (fun e20 => ?_) (fun e20 => ?_)
    · replace hd0 := sel_t e20 hd0; clear e20
      refine wg_seq ?_
      refine wg_region ?_
      refine wo_v rfl (val_assign (v := (.int .i64 1)) rfl) ?_
      refine wo_nil ?_
      refine wg_ret ?_
      obtain rfl := Option.some.inj hd0
      refine body_end (D := []) (J := []) (rs := [.tmp 4]) (vs := [(.int .i64 1)]) ((le4.trans le12).trans le19) rfl rfl ⟨rfl, trivial⟩ ?_
      exact ⟨rfl, rfl⟩
    · replace hd0 := sel_f e20 hd0; clear e20
      refine wg_skip ?_
      refine wg_seq ?_
      refine wg_region ?_
      refine wo_v rfl (val_assign (v := (.int .i64 0)) rfl) ?_
      refine wo_nil ?_
      refine wg_ret ?_
      obtain rfl := Option.some.inj hd0
      refine body_end (D := []) (J := []) (rs := [.tmp 4]) (vs := [(.int .i64 0)]) ((le4.trans le12).trans le19) rfl rfl ⟨rfl, trivial⟩ ?_
      exact ⟨rfl, rfl⟩
theorem en45 : Enters Try.prog 45 := enters_of Try.func45 rfl (by kernel_rfl)
theorem c_walks_Path {N : Nat} {R : RH} {m : Mach} {v_m : Value} (h_m : VRep (kMach false false) R v_m m) {s : Int} {t : Int} {r : (List Int) × Bool × Int} (hd0 : walks_Path N m s t = some r) : CallP Try.prog 19 #[v_m, (.int .i64 s), (.int .i64 t)] R (fun v R' => ∃ u0, v = .tuple #[u0, (.bool r.2.1), (.int .i64 r.2.2)] ∧ VRep (tSl true (tInt .i64)) R' u0 r.1) := by
  refine callP_of_wg (args := [v_m, (.int .i64 s), (.int .i64 t)]) Try.func19 rfl rfl fun A => ?_
  rw [walks_Path] at hd0
  refine wg_seq ?_
  refine wg_region ?_
  refine wo_boxR (T := (kMach false false)) rfl rfl h_m fun v1 R3 le4 h2 => ?_
  refine wo_v rfl (val_assign (v := (.slice none 0 0)) rfl) ?_
  refine wo_v rfl (val_assign (v := (.bool false)) rfl) ?_
  refine wo_v rfl (val_assign (v := (.int .i64 0)) rfl) ?_
  refine wo_nil ?_
  refine wg_seq ?_
  refine wg_seq ?_
  refine wg_region ?_
  refine wo_loadR rfl ty27 rfl h2 fun v5 h6 => ?_
  refine wo_v rfl (val_move (v := (.int .i64 s)) rfl) ?_
  refine wo_v rfl (val_move (v := (.int .i64 t)) rfl) ?_
  refine wo_lit (T := (tInt .i64)) (X := ([s, t] : List Int)) (ps := [(0, (.int .i64 s)), (1, (.int .i64 t))]) (css := [[(.int .i64 s)], [(.int .i64 t)]]) rfl Try.underlying36 zo3 rfl rfl (lit_reps ⟨rfl, rfl, trivial⟩) rfl rfl (by decide) fun v7 f8 cap9 h10 => ?_
  replace hd0 := bd_some hd0; obtain ⟨y15, c16, hd0⟩ := hd0
  refine wo_lend (cs := []) (vs := [v5, v7]) (φ := fun v => v = (.int .i64 y15)) rfl en45 rfl rfl (fun R12 le13 ll14 => c_walks_state (h6.mono le13) (Sub.v (B := (tSl false (tInt .i64))) (sub_sl Sub.refl (fun _ => rfl)) (sl_t (t := true) ((lent_o 0 rfl h10 le13 ll14) : VRep (tSlice (tInt .i64)) R12 v7 ([s, t] : List Int)) cap9)) c16) fun v17 h18 => ?_
  obtain rfl := h18
  refine wo_v rfl (val_assign (v := (.int .i64 y15)) rfl) ?_
  refine wo_nil ?_
  refine wg_seq ?_
  refine wg_region ?_
  refine wo_v rfl (val_move (v := (.int .i64 y15)) rfl) ?_
  refine wo_v rfl (val_neq rfl rfl) ?_
  refine wo_nil ?_
  refine wg_cond rfl (fun e19 => ?_) (fun e19 => ?_)
  · replace hd0 := sel_t e19 hd0; clear e19
    refine wg_seq ?_
    refine wg_region ?_
    refine wo_v rfl (val_move (v := (.int .i64 y15)) rfl) ?_
    refine wo_v rfl (val_assign (v := (.slice none 0 0)) rfl) ?_
    refine wo_v rfl (val_assign (v := (.bool false)) rfl) ?_
    refine wo_v rfl (val_assign (v := (.int .i64 y15)) rfl) ?_
    refine wo_nil ?_
    refine wg_ret ?_
    obtain rfl := Option.some.inj hd0
    refine body_end (D := []) (J := [f8]) (rs := [.tmp 6, .tmp 7, .tmp 8]) (vs := [(.slice none 0 0), (.bool false), (.int .i64 y15)]) le4 rfl rfl ⟨rfl, rfl, rfl, trivial⟩ ?_
    exact ⟨rfl, ⟨(.slice none 0 0), rfl, sl_nil⟩⟩
  · replace hd0 := sel_f e19 hd0; clear e19
    refine wg_skip ?_
    refine wg_seq ?_
    refine wg_region ?_
    refine wo_loadR rfl ty27 rfl h2 fun v20 h21 => ?_
    refine wo_v rfl (val_move (v := (.int .i64 s)) rfl) ?_
    replace hd0 := bd_some hd0; obtain ⟨y22, c23, hd0⟩ := hd0
    refine wo_callP rfl en38 rfl (c_walks_paths h21 c23) fun v24 R26 le27 h25 => ?_
    obtain ⟨v28, v30, rfl, h29, h31⟩ := h25
    refine wo_v rfl (val_move (v := (.tuple #[v28, v30])) rfl) ?_
    refine wo_v rfl (val_extract rfl rfl) ?_
    refine wo_v rfl (val_extract rfl rfl) ?_
    refine wo_v rfl (val_assign (v := v28) rfl) ?_
    refine wo_v rfl (val_assign (v := v30) rfl) ?_
    refine wo_nil ?_
    refine wg_seq ?_
    have g32 := (gd_some hd0).1; replace hd0 := (gd_some hd0).2
    have g33 := (gd_some hd0).1; replace hd0 := (gd_some hd0).2
    refine wg_drawn 11 [] [phX v28, phX (.int .i64 t), phP (tSl true (tInt .i64)) (ix y22.1 t), phR (tSl true (tInt .i64)) (ix y22.1 t), phX v30, phX (.int .i64 t), phP tBool (ix y22.2 t), phX (.bool (ix y22.2 t)), phR (tSl true (tInt .i64)) (ix y22.1 t), phX (.bool (ix y22.2 t)), phX (.int .i64 0)] mixed (by kernel_rfl) (monoOk_of ⟨mono_x, mono_x, mono_p, mono_r, mono_x, mono_x, mono_p, mono_x, mono_r, mono_x, mono_x, trivial⟩) ⟨?_, ?_, ?_, ?_, ?_, ?_, ?_, ?_, ?_, ?_, ?_, trivial⟩ fun R34 le35 => ?_
    · intro l R0q hle ha hd
      have a10 : l 10 = v28 := ha 10 rfl
      exact gstep_plain rfl rfl rfl (ph_val (val_move a10))
    · intro l R1q hle ha hd
      have a2 : l 2 = (.int .i64 t) := ha 2 rfl
      exact gstep_plain rfl rfl rfl (ph_val (val_move a2))
    · intro l R2q hle ha hd
      obtain ⟨d0, d1, _⟩ := hd
      have f26 : l 26 = v28 := d0 rfl
      have f27 : l 27 = (.int .i64 t) := d1 rfl
      exact gstep_plain rfl rfl rfl (ph_indexR (i := t.toNat) sl29 f26 (sl_s (h29.mono hle)) (idx_nonneg f27 g32.1) (okI_lt g32))
    · intro l R3q hle ha hd
      obtain ⟨d0, _⟩ := hd
      have f28 : phP (tSl true (tInt .i64)) (ix y22.1 t) (l 28) R3q := d0 rfl
      exact gstep_plain rfl rfl rfl (ph_loadR ty36 rfl f28)
    · intro l R4q hle ha hd
      obtain ⟨d0, _⟩ := hd
      have a11 : l 11 = v30 := ha 11 rfl
      exact gstep_plain rfl rfl rfl (ph_val (val_move a11))
    · intro l R5q hle ha hd
      obtain ⟨d0, _⟩ := hd
      have a2 : l 2 = (.int .i64 t) := ha 2 rfl
      exact gstep_plain rfl rfl rfl (ph_val (val_move a2))
    · intro l R6q hle ha hd
      obtain ⟨d0, d1, d2, _⟩ := hd
      have f30 : l 30 = v30 := d0 rfl
      have f31 : l 31 = (.int .i64 t) := d1 rfl
      exact gstep_plain rfl rfl rfl (ph_indexR (i := t.toNat) sl30 f30 (sl_s (h31.mono hle)) (idx_nonneg f31 g33.1) (okI_lt g33))
    · intro l R7q hle ha hd
      obtain ⟨d0, d1, _⟩ := hd
      have f32 : phP tBool (ix y22.2 t) (l 32) R7q := d0 rfl
      exact gstep_plain rfl rfl rfl (ph_exact (ph_loadR ty4 rfl f32) (fun _ _ h => vrep_bool.1 h))
    · intro l R8q hle ha hd
      obtain ⟨d0, d1, d2, d3, d4, d5, d6, d7, d8, _⟩ := hd
      have f29 : phR (tSl true (tInt .i64)) (ix y22.1 t) (l 29) R8q := d0 rfl
      exact gstep_plain rfl rfl rfl (ph_rep (val_assign rfl) f29)
    · intro l R9q hle ha hd
      obtain ⟨d0, d1, d2, d3, d4, d5, d6, d7, d8, d9, d10, _⟩ := hd
      have f33 : l 33 = (.bool (ix y22.2 t)) := d0 rfl
      exact gstep_plain rfl rfl rfl (ph_val (val_assign f33))
    · intro l R10q hle ha hd
      obtain ⟨d0, d1, d2, d3, d4, d5, d6, d7, d8, d9, d10, _⟩ := hd
      exact gstep_plain rfl rfl rfl (ph_val (val_assign rfl))
    intro v36 h37
    intro v38 h39
    intro v40 h41
    intro v42 h43
    intro v44 h45
    intro v46 h47
    intro v48 h49
    intro v50 h51
    intro v52 h53
    intro v54 h55
    intro v56 h57
    obtain rfl := Eq.symm h37
    obtain rfl := Eq.symm h39
    obtain rfl := Eq.symm h45
    obtain rfl := Eq.symm h47
    obtain rfl := Eq.symm h51
    obtain rfl := Eq.symm h55
    obtain rfl := Eq.symm h57
    refine wo_nil ?_
    refine wg_ret ?_
    obtain rfl := Option.some.inj hd0
    refine body_end (D := []) (J := [f8]) (rs := [.tmp 6, .tmp 7, .tmp 8]) (vs := [v52, (.bool (ix y22.2 t)), (.int .i64 0)]) ((le4.trans le27).trans le35) rfl rfl ⟨rfl, rfl, rfl, trivial⟩ ?_
    exact ⟨rfl, ⟨v52, rfl, h53⟩⟩
theorem en19 : Enters Try.prog 19 := enters_of Try.func19 rfl (by kernel_rfl)
theorem c_walks_Distances {N : Nat} {R : RH} {m : Mach} {v_m : Value} (h_m : VRep (kMach false false) R v_m m) {s : Int} {r : (List Int) × Int} (hd0 : walks_Distances N m s = some r) : CallP Try.prog 20 #[v_m, (.int .i64 s)] R (fun v R' => ∃ u0, v = .tuple #[u0, (.int .i64 r.2)] ∧ VRep (tSl true (tInt .i64)) R' u0 r.1) := by
  refine callP_of_wg (args := [v_m, (.int .i64 s)]) Try.func20 rfl rfl fun A => ?_
  rw [walks_Distances] at hd0
  refine wg_seq ?_
  refine wg_region ?_
  refine wo_boxR (T := (kMach false false)) rfl rfl h_m fun v1 R3 le4 h2 => ?_
  refine wo_v rfl (val_assign (v := (.slice none 0 0)) rfl) ?_
  refine wo_v rfl (val_assign (v := (.int .i64 0)) rfl) ?_
  refine wo_nil ?_
  refine wg_seq ?_
  refine wg_seq ?_
  refine wg_region ?_
  refine wo_loadR rfl ty27 rfl h2 fun v5 h6 => ?_
  refine wo_v rfl (val_move (v := (.int .i64 s)) rfl) ?_
  refine wo_lit (T := (tInt .i64)) (X := ([s] : List Int)) (ps := [(0, (.int .i64 s))]) (css := [[(.int .i64 s)]]) rfl Try.underlying36 zo3 rfl rfl (lit_reps ⟨rfl, trivial⟩) rfl rfl (by decide) fun v7 f8 cap9 h10 => ?_
  replace hd0 := bd_some hd0; obtain ⟨y15, c16, hd0⟩ := hd0
  refine wo_lend (cs := []) (vs := [v5, v7]) (φ := fun v => v = (.int .i64 y15)) rfl en45 rfl rfl (fun R12 le13 ll14 => c_walks_state (h6.mono le13) (Sub.v (B := (tSl false (tInt .i64))) (sub_sl Sub.refl (fun _ => rfl)) (sl_t (t := true) ((lent_o 0 rfl h10 le13 ll14) : VRep (tSlice (tInt .i64)) R12 v7 ([s] : List Int)) cap9)) c16) fun v17 h18 => ?_
  obtain rfl := h18
  refine wo_v rfl (val_assign (v := (.int .i64 y15)) rfl) ?_
  refine wo_nil ?_
  refine wg_seq ?_
  refine wg_region ?_
  refine wo_v rfl (val_move (v := (.int .i64 y15)) rfl) ?_
  refine wo_v rfl (val_neq rfl rfl) ?_
  refine wo_nil ?_
  refine wg_cond rfl (fun e19 => ?_) (fun e19 => ?_)
  · replace hd0 := sel_t e19 hd0; clear e19
    refine wg_seq ?_
    refine wg_region ?_
    refine wo_v rfl (val_move (v := (.int .i64 y15)) rfl) ?_
    refine wo_v rfl (val_assign (v := (.slice none 0 0)) rfl) ?_
    refine wo_v rfl (val_assign (v := (.int .i64 y15)) rfl) ?_
    refine wo_nil ?_
    refine wg_ret ?_
    obtain rfl := Option.some.inj hd0
    refine body_end (D := []) (J := [f8]) (rs := [.tmp 4, .tmp 5]) (vs := [(.slice none 0 0), (.int .i64 y15)]) le4 rfl rfl ⟨rfl, rfl, trivial⟩ ?_
    exact ⟨rfl, ⟨(.slice none 0 0), rfl, sl_nil⟩⟩
  · replace hd0 := sel_f e19 hd0; clear e19
    refine wg_skip ?_
    refine wg_seq ?_
    refine wg_region ?_
    refine wo_loadR rfl ty27 rfl h2 fun v20 h21 => ?_
    refine wo_v rfl (val_move (v := (.int .i64 s)) rfl) ?_
    replace hd0 := bd_some hd0; obtain ⟨y22, c23, hd0⟩ := hd0
    refine wo_callP rfl en38 rfl (c_walks_paths h21 c23) fun v24 R26 le27 h25 => ?_
    obtain ⟨v28, v30, rfl, h29, h31⟩ := h25
    refine wo_v rfl (val_move (v := (.tuple #[v28, v30])) rfl) ?_
    refine wo_v rfl (val_extract rfl rfl) ?_
    refine wo_v rfl (val_extract rfl rfl) ?_
    refine wo_v rfl (val_assign (v := v28) rfl) ?_
    refine wo_v rfl (val_assign (v := v30) rfl) ?_
    refine wo_nil ?_
    refine wg_seq ?_
    refine wg_region ?_
    refine wo_v rfl (val_move (v := v28) rfl) ?_
    refine wo_v rfl (val_lenR rfl Try.underlying29 rfl (sl_s h29)) ?_
    have g36 := (gd_some hd0).1; replace hd0 := (gd_some hd0).2
    refine wo_make (T := (tInt .i64)) (m := (↑y22.1.length : Int).toNat) (c := (↑y22.1.length : Int).toNat) rfl Try.underlying36 zo3 (idx_nonneg rfl g36.1) (idx_nonneg rfl g36.1) (Nat.le_refl _) (okM_b g36) (okM_n g36) fun v32 f33 cap34 h35 => ?_
    refine wo_v rfl (val_assign (v := v32) rfl) ?_
    refine wo_nil ?_
    replace hd0 := bd_some hd0; obtain ⟨o38, hd1, hd0⟩ := hd0
    refine wg_meet (γ := (List Int) × Frag) true [28, 29, 30, 31, 32, 33, 34, 10, 11, 35, 36, 37, 38, 39, 40, 41, 42, 43, 44, 45, 46, 47] (fun g => []) (fun g => [g.2] ++ A) (fun g R => o38 = g.1 ∧ ORep (tInt .i64) R g.2 v32 g.1 ∧ capOf v32 = g.1.length ∧ True) ?_ ?_
    ·
      refine wg_seq ?_
      refine wg_region ?_
      refine wo_v rfl (val_move (v := v28) rfl) ?_
      refine wo_v rfl (val_lenR rfl Try.underlying29 rfl (sl_s h29)) ?_
      refine wo_v rfl (val_move (v := (.int .i64 0)) rfl) ?_
      refine wo_nil ?_
      refine wg_block ?_
      refine wg_loopS (γ := Nat × Int × (List Int) × Frag) true [31, 32, 33, 34, 10, 11, 35, 36, 37, 38, 39, 40, 41, 42, 43, 44, 45, 46, 47, 30] (fun g => [(30, (.int .i64 g.2.1))]) (fun g => [g.2.2.2] ++ A) (fun g R => walks_Distances_L1 N y22 g.1 g.2.1 g.2.2.1 = some o38 ∧ ORep (tInt .i64) R g.2.2.2 v32 g.2.2.1 ∧ capOf v32 = g.2.2.1.length ∧ True) (fun g => g.1) (N, 0, (mk (↑y22.1.length : Int) (0 : Int)), f33) ⟨rfl, trivial⟩ ⟨[f8], (pk 1 rfl (pk 0 rfl (List.Perm.refl _)))⟩ ⟨hd1, h35, (cap34.trans List.length_replicate.symm), trivial⟩ (fun _ => rfl) ?_
      clear hd1
      rintro ⟨F44, x45, x46, f49⟩ j84 D85 R47 hD86 le48 ⟨hd1, h50, ht51, _⟩
      obtain rfl := hD86 rfl
      rcases F44 with _ | F44
      · exact none_elim hd1
      replace hd1 : walks_Distances_L1 N y22 (F44 + 1) x45 x46 = some o38 := hd1; rw [walks_Distances_L1] at hd1
      refine wg_seq ?_
      refine wg_region ?_
      refine wo_v rfl (val_lss rfl rfl) ?_
      refine wo_nil ?_
      refine wg_seq ?_
      refine wg_cond rfl (fun e52 => ?_) (fun e52 => ?_)
      · replace hd1 := sel_t e52 hd1; clear e52
        refine wg_skip ?_
        replace hd1 := bd_some hd1; obtain ⟨o53, hd2, hd1⟩ := hd1
        refine wg_meet (γ := (List Int) × Frag) true [32, 33, 34, 10, 11, 35, 36, 37, 38, 39, 40, 41, 42, 43, 44, 45, 46] (fun g => []) (fun g => [g.2] ++ A) (fun g R => o53 = g.1 ∧ ORep (tInt .i64) R g.2 v32 g.1 ∧ capOf v32 = g.1.length ∧ True) ?_ ?_
        ·
          refine wg_block ?_
          refine wg_seq ?_
          refine wg_region ?_
          refine wo_v rfl (val_move (v := (.int .i64 x45)) rfl) ?_
          have g59 := (gd_some hd2).1; replace hd2 := (gd_some hd2).2
          refine wo_indexR (i := x45.toNat) rfl sl29 rfl (sl_s (h29.mono le48)) (idx_nonneg rfl g59.1) (okI_lt g59) fun v60 h61 => ?_
          refine wo_loadR rfl ty36 rfl h61 fun v62 h63 => ?_
          refine wo_v rfl (val_assign (v := (.int .i64 x45)) rfl) ?_
          refine wo_v rfl (val_assign (v := v62) rfl) ?_
          refine wo_nil ?_
          refine wg_seq ?_
          refine wg_region ?_
          refine wo_v rfl (val_move (v := v32) rfl) ?_
          refine wo_v rfl (val_move (v := (.int .i64 x45)) rfl) ?_
          have g64 := (gd_some hd2).1; replace hd2 := (gd_some hd2).2
          refine wo_indexO (i := x45.toNat) rfl sl36 rfl h50 (idx_nonneg rfl g64.1) (okI_lt g64) fun v65 h66 => ?_
          refine wo_storeO (i := x45.toNat) (j := 0) ty3 h50 rfl rfl h66 (okI_lt g64) rfl (vrep_int.2 rfl) fun f67 h68 => ?_
          refine wo_nil ?_
          refine wg_seq ?_
          refine wg_region ?_
          refine wo_v rfl (val_move (v := v30) rfl) ?_
          refine wo_v rfl (val_move (v := (.int .i64 x45)) rfl) ?_
          have g69 := (gd_some hd2).1; replace hd2 := (gd_some hd2).2
          refine wo_indexR (i := x45.toNat) rfl sl30 rfl (sl_s (h31.mono le48)) (idx_nonneg rfl g69.1) (okI_lt g69) fun v70 h71 => ?_
          refine wo_loadR rfl ty4 rfl h71 fun v72 h73 => ?_
          obtain rfl := vrep_bool.1 h73
          refine wo_nil ?_
          refine wg_cond rfl (fun e74 => ?_) (fun e74 => ?_)
          · replace hd2 := sel_t e74 hd2; clear e74
            refine wg_region ?_
            refine wo_v rfl (val_move (v := v32) rfl) ?_
            refine wo_v rfl (val_move (v := (.int .i64 x45)) rfl) ?_
            refine wo_v rfl (val_move (v := v62) rfl) ?_
            refine wo_v rfl (val_lenR rfl Try.underlying36 rfl (sl_s h63)) ?_
            have g75 := (gd_some hd2).1; replace hd2 := (gd_some hd2).2
            refine wo_indexO (i := x45.toNat) rfl sl36 rfl h68 (idx_nonneg rfl g75.1) (okI_lt g75) fun v76 h77 => ?_
            refine wo_storeO (i := x45.toNat) (j := 0) ty3 h68 rfl rfl h77 (okI_lt g75) rfl (vrep_int.2 rfl) fun f78 h79 => ?_
            refine wo_nil ?_
            exact ⟨(fun _ => rfl), (RH.le.refl _), (by repeat (first | exact off_self | refine off_upd rfl ?_ | refine off_setl rfl ?_ | refine off_mask_sub rfl ?_)), ((up (up x46 x45 (-1)) x45 (↑(ix y22.1 x45).length : Int)), f78), trivial, ⟨[], List.Perm.refl _⟩, (Option.some.inj hd2).symm, h79, ((ht51.trans List.length_set.symm).trans List.length_set.symm), trivial⟩
          · replace hd2 := sel_f e74 hd2; clear e74
            refine wg_skip ?_
            exact ⟨(fun _ => rfl), (RH.le.refl _), (by repeat (first | exact off_self | refine off_upd rfl ?_ | refine off_setl rfl ?_ | refine off_mask_sub rfl ?_)), ((up x46 x45 (-1)), f67), trivial, ⟨[], List.Perm.refl _⟩, (Option.some.inj hd2).symm, h68, (ht51.trans List.length_set.symm), trivial⟩
        ·
          rintro ⟨o53, f56⟩ j80 D81 R54 hD82 le55 ⟨rfl, h57, ht58, _⟩
          obtain rfl := hD82 rfl
          refine wg_region ?_
          have g83 := (gd_some hd1).1; replace hd1 := (gd_some hd1).2
          refine wo_v rfl (val_add rfl rfl g83) ?_
          refine wo_v rfl (val_move (v := (.int .i64 (x45 + 1))) rfl) ?_
          refine wo_nil ?_
          exact ⟨(fun _ => rfl), le55, (by repeat (first | exact off_self | refine off_upd rfl ?_ | refine off_setl rfl ?_ | refine off_mask_sub rfl ?_)), (F44, x45 + 1, o53, f56), Nat.lt_succ_self _, ⟨rfl, trivial⟩, ⟨[], List.Perm.refl _⟩, hd1, h57, ht58, trivial⟩
      · replace hd1 := sel_f e52 hd1; clear e52
        refine wg_exit ?_
        exact ⟨(fun _ => rfl), le48, (by repeat (first | exact off_self | refine off_upd rfl ?_ | refine off_setl rfl ?_ | refine off_mask_sub rfl ?_)), (x46, f49), trivial, ⟨[], List.Perm.refl _⟩, (Option.some.inj hd1).symm, h50, ht51, trivial⟩
    ·
      rintro ⟨o38, f41⟩ j87 D88 R39 hD89 le40 ⟨rfl, h42, ht43, _⟩
      obtain rfl := hD89 rfl
      refine wg_seq ?_
      refine wg_region ?_
      refine wo_v rfl (val_move (v := v32) rfl) ?_
      refine wo_v rfl (val_assign (v := v32) rfl) ?_
      refine wo_v rfl (val_assign (v := (.int .i64 0)) rfl) ?_
      refine wo_nil ?_
      refine wg_freeze (i := 0) rfl h42 fun R90 le91 h92 => ?_
      have h93 : VRep (tSl true (tInt .i64)) R90 v32 o38 := (sl_t h92 ht43)
      refine wg_ret ?_
      obtain rfl := Option.some.inj hd0
      refine body_end (D := []) (J := []) (rs := [.tmp 4, .tmp 5]) (vs := [v32, (.int .i64 0)]) (((le4.trans le27).trans le40).trans le91) rfl rfl ⟨rfl, rfl, trivial⟩ ?_
      exact ⟨rfl, ⟨v32, rfl, h93⟩⟩
theorem en20 : Enters Try.prog 20 := enters_of Try.func20 rfl (by kernel_rfl)
theorem ko3 : KOk Try.prog 3 (Value.int .i64) := kok_int Try.underlying3
theorem za106 : ∀ w, ∃ z, (zeroValue 106).run Try.prog w = .ok z w ∧ z.cells = ([.map none] : List Value).toArray := fun w => ⟨(.map none), by kernel_rfl, rfl⟩
theorem sz106 : ∀ w, (sizeOf 106).run Try.prog w = .ok 1 w := fun w => by kernel_rfl
theorem ag106 : ∀ w, (isAgg 106).run Try.prog w = .ok false w := fun w => by kernel_rfl
theorem zh50 : ZeroOk Try.prog 50 tHdr (.slice none 0 0) 24 := by
  obtain ⟨i, zv, hi, hz, hs, hb, hv⟩ := info_zero (P := Try.prog) (e := 50) (zv := (.slice none 0 0)) (k := 1) (b := 24) (by kernel_rfl)
  exact ⟨i, zv, hi, hz, hs, hb, fun R => by subst hv; exact ⟨rfl, rfl⟩⟩
theorem ty106 : TyOk Try.prog 106 (tMap (Value.int .i64) (Value.int .i64)) := by
  obtain ⟨i, hi, hs⟩ : ∃ i, Try.prog.info? 106 = some i ∧ i.size = 1 := info_size (by kernel_rfl)
  exact tyOk_of Try.underlying106 hi rfl hs
theorem mz3 : ∀ w, (zeroValue 3).run Try.prog w = .ok ((Value.int .i64) (0 : Int)) w := fun w => by kernel_rfl
theorem c_walks_part_1 {N : Nat} {R : RH} {x : Edge} {p0_ : (List (Int × Int))} {v_p0_ : Value} (h_p0_ : PRep (tMap (Value.int .i64) (Value.int .i64)) R v_p0_ p0_) {r : Edge} (hd0 : walks_part_1 N x p0_ = some r) : CallP Try.prog 65 #[(enc_Edge x), v_p0_] R (fun v R' => v = (enc_Edge r)) := by
  refine callP_of_wg (args := [(enc_Edge x), v_p0_]) Try.func65 rfl rfl fun A => ?_
  rw [walks_part_1] at hd0
  refine wg_seq ?_
  refine wg_region ?_
  refine wo_boxR (T := kEdge) rfl rfl (vrep_Edge.2 rfl) fun v1 R3 le4 h2 => ?_
  refine wo_alloc rfl za49 fun b5 => ?_
  refine wo_nil ?_
  refine wg_seq ?_
  refine wg_region ?_
  refine wo_loadR rfl ty106 rfl (h_p0_.mono le4) fun v7 h8 => ?_
  refine wo_fieldR rfl fd49_0 pt_Edge0 rfl h2 fun v9 h10 => ?_
  refine wo_loadR rfl ty3 rfl h10 fun v11 h12 => ?_
  obtain rfl := vrep_int.1 h12
  refine wo_v rfl (val_lookup (k := x.to) Try.underlying106 ko3 mz3 (mat_read h8) rfl rfl) ?_
  refine wo_fieldR rfl fd49_1 pt_Edge1 rfl h2 fun v13 h14 => ?_
  refine wo_loadR rfl ty3 rfl h14 fun v15 h16 => ?_
  obtain rfl := vrep_int.1 h16
  refine wo_v rfl (val_buildL (ps := [(0, (.int .i64 (mget (0 : Int) p0_ x.to))), (1, (.int .i64 x.out))]) (v := (.agg #[(.int .i64 (mget (0 : Int) p0_ x.to)), (.int .i64 x.out)])) rfl (fun w => by kernel_rfl)) ?_
  refine wo_store (i := 0) (vs := [(.int .i64 (mget (0 : Int) p0_ x.to)), (.int .i64 x.out)]) sz49 rfl rfl rfl rfl rfl rfl (one_cons rfl (one_cons rfl one_nil)) ?_
  refine wo_nil ?_
  refine wg_ret ?_
  obtain rfl := Option.some.inj hd0
  refine body_end (D := []) (J := [box b5 [(.int .i64 (mget (0 : Int) p0_ x.to)), (.int .i64 x.out)] 49]) (rs := [.cell 3 49]) (vs := [(.agg #[(.int .i64 (mget (0 : Int) p0_ x.to)), (.int .i64 x.out)])]) le4 rfl rfl ⟨⟨_, rfl, fun w hh => run_cellA (i := 0) hh rfl rfl ag49 sz49 rfl rfl⟩, trivial⟩ ?_
  exact ⟨rfl, rfl⟩
theorem en65 : Enters Try.prog 65 := enters_of Try.func65 rfl (by kernel_rfl)
theorem c_walks_part {N : Nat} {R : RH} {m : Mach} {v_m : Value} (h_m : VRep (kMach false false) R v_m m) {l_ : (List Int)} {v_l_ : Value} (h_l_ : VRep (tSl false (tInt .i64)) R v_l_ l_) {r : Mach} (hd0 : walks_part N m l_ = some r) : CallP Try.prog 47 #[v_m, v_l_] R (fun v R' => VRep (kMach true true) R' v r) := by
  refine callP_of_wg (args := [v_m, v_l_]) Try.func47 rfl rfl fun A => ?_
  rw [walks_part] at hd0
  refine wg_seq ?_
  refine wg_region ?_
  refine wo_boxR (T := (kMach false false)) rfl rfl h_m fun v1 R3 le4 h2 => ?_
  refine wo_alloc rfl za27 fun b5 => ?_
  refine wo_nil ?_
  refine wg_seq ?_
  refine wg_region ?_
  refine wo_makeMap (ke := (Value.int .i64)) (ve := (Value.int .i64)) rfl fun v7 f8 h9 => ?_
  refine wo_mapInsert (i := 0) (k := (-1)) (u := (-1)) Try.underlying106 ko3 rfl h9 rfl rfl rfl fun f11 h12 => ?_
  refine wo_v rfl (val_move (v := v7) rfl) ?_
  refine wo_alloc rfl za106 fun b13 => ?_
  refine wo_store (i := 0) (vs := [v7]) sz106 rfl rfl (orep_mcells h12) rfl rfl rfl (one_cons (orep_mone h12) one_nil) ?_
  refine wo_nil ?_
  replace hd0 := bd_some hd0; obtain ⟨o15, hd1, hd0⟩ := hd0
  refine wg_meet (γ := (List (Int × Int)) × Frag) true [16, 17, 18, 19, 20, 21, 22, 6, 7, 23, 24, 25, 26] (fun g => []) (fun g => [box b5 [(.int .i64 0), (.int .i64 0), (.slice none 0 0)] 27, box b13 [v7] 106, g.2] ++ A) (fun g R => o15 = g.1 ∧ MRep (Value.int .i64) (Value.int .i64) R g.2 v7 g.1 ∧ True) ?_ ?_
  ·
    refine wg_seq ?_
    refine wg_region ?_
    refine wo_v rfl (val_move (v := v_l_) rfl) ?_
    refine wo_v rfl (val_lenR rfl Try.underlying36 rfl (sl_s (h_l_.mono le4))) ?_
    refine wo_v rfl (val_move (v := (.int .i64 0)) rfl) ?_
    refine wo_nil ?_
    refine wg_block ?_
    refine wg_loopS (γ := Nat × Int × (List (Int × Int)) × Frag) true [19, 20, 21, 22, 6, 7, 23, 24, 25, 26, 18] (fun g => [(18, (.int .i64 g.2.1))]) (fun g => [box b5 [(.int .i64 0), (.int .i64 0), (.slice none 0 0)] 27, box b13 [v7] 106, g.2.2.2] ++ A) (fun g R => walks_part_L1 N l_ g.1 g.2.1 g.2.2.1 = some o15 ∧ MRep (Value.int .i64) (Value.int .i64) R g.2.2.2 v7 g.2.2.1 ∧ True) (fun g => g.1) (N, 0, (mput ([] : List (Int × Int)) (-1) (-1)), f11) ⟨rfl, trivial⟩ ⟨[], (pk 2 rfl (pk 0 rfl (pk 0 rfl (List.Perm.refl _))))⟩ ⟨hd1, h12, trivial⟩ (fun _ => rfl) ?_
    clear hd1
    rintro ⟨F20, x21, x22, f25⟩ j36 D37 R23 hD38 le24 ⟨hd1, h26, _⟩
    obtain rfl := hD38 rfl
    rcases F20 with _ | F20
    · exact none_elim hd1
    replace hd1 : walks_part_L1 N l_ (F20 + 1) x21 x22 = some o15 := hd1; rw [walks_part_L1] at hd1
    refine wg_seq ?_
    refine wg_region ?_
    refine wo_v rfl (val_lss rfl rfl) ?_
    refine wo_nil ?_
    refine wg_seq ?_
    refine wg_cond rfl (fun e27 => ?_) (fun e27 => ?_)
    · replace hd1 := sel_t e27 hd1; clear e27
      refine wg_skip ?_
      refine wg_seq ?_
      refine wg_block ?_
      refine wg_seq ?_
      refine wg_region ?_
      refine wo_v rfl (val_move (v := (.int .i64 x21)) rfl) ?_
      have g28 := (gd_some hd1).1; replace hd1 := (gd_some hd1).2
      refine wo_indexR (i := x21.toNat) rfl sl36 rfl (sl_s (h_l_.mono (le4.trans le24))) (idx_nonneg rfl g28.1) (okI_lt g28) fun v29 h30 => ?_
      refine wo_loadR rfl ty3 rfl h30 fun v31 h32 => ?_
      obtain rfl := vrep_int.1 h32
      refine wo_v rfl (val_assign (v := (.int .i64 x21)) rfl) ?_
      refine wo_v rfl (val_assign (v := (.int .i64 (ix l_ x21))) rfl) ?_
      refine wo_nil ?_
      refine wg_region ?_
      refine wo_v rfl (val_loadB (i := 1) ag106 rfl rfl rfl) ?_
      refine wo_v rfl (val_move (v := (.int .i64 (ix l_ x21))) rfl) ?_
      refine wo_v rfl (val_move (v := (.int .i64 x21)) rfl) ?_
      refine wo_mapUpdate (i := 2) (k := (ix l_ x21)) (u := x21) Try.underlying106 ko3 rfl h26 rfl rfl rfl fun f33 h34 => ?_
      refine wo_nil ?_
      refine wg_region ?_
      have g35 := (gd_some hd1).1; replace hd1 := (gd_some hd1).2
      refine wo_v rfl (val_add rfl rfl g35) ?_
      refine wo_v rfl (val_move (v := (.int .i64 (x21 + 1))) rfl) ?_
      refine wo_nil ?_
      exact ⟨(fun _ => rfl), (RH.le.refl _), (by repeat (first | exact off_self | refine off_upd rfl ?_ | refine off_setl rfl ?_ | refine off_mask_sub rfl ?_)), (F20, x21 + 1, (mput x22 (ix l_ x21) x21), f33), Nat.lt_succ_self _, ⟨rfl, trivial⟩, ⟨[], List.Perm.refl _⟩, hd1, h34, trivial⟩
    · replace hd1 := sel_f e27 hd1; clear e27
      refine wg_exit ?_
      exact ⟨(fun _ => rfl), le24, (by repeat (first | exact off_self | refine off_upd rfl ?_ | refine off_setl rfl ?_ | refine off_mask_sub rfl ?_)), (x22, f25), trivial, ⟨[], List.Perm.refl _⟩, (Option.some.inj hd1).symm, h26, trivial⟩
  ·
    rintro ⟨o15, f18⟩ j39 D40 R16 hD41 le17 ⟨rfl, h19, _⟩
    obtain rfl := hD41 rfl
    refine wg_seq ?_
    refine wg_region ?_
    refine wo_v rfl (val_makeFuncL (fs := []) (cs := [(.pointer (some ⟨b13, 0, none⟩))]) rfl rfl) ?_
    refine wo_v rfl (val_assign (v := (.func (.func 65) #[] #[(.pointer (some ⟨b13, 0, none⟩))])) rfl) ?_
    refine wo_nil ?_
    refine wg_seq ?_
    have g42 := (gd_some hd0).1; replace hd0 := (gd_some hd0).2
    refine wg_free [6, 8, 9] [(fun es => phP (tInt .i64) m.inputs), (fun es => phX (.int .i64 m.inputs)), (fun es => phP (tInt .i64) m.outputs), (fun es => phX (.int .i64 m.outputs)), (fun es => phX v_l_), (fun es => phX (.int .i64 (↑l_.length : Int))), (fun es => (fun v _ => v.oneCell' = true)), (fun es => phX (.agg #[(.int .i64 m.inputs), (.int .i64 m.outputs), (es.getD 0 undef)])), (fun es => (fun v _ => v = .pointer (some ⟨blkOf v, 0, none⟩))), (fun es => (fun _ _ => True))] (fun fl es R O => (fl = [false, false, false] ∧ O.Perm ([box b5 [(.int .i64 0), (.int .i64 0), (.slice none 0 0)] 27, box b13 [v7] 106, f18] ++ A) ∧ True) ∨ (fl = [true, false, false] ∧ ∃ (f_o43 : Frag), O.Perm ([box b5 [(.int .i64 0), (.int .i64 0), (.slice none 0 0)] 27, box b13 [v7] 106, f18, f_o43] ++ A) ∧ N2 true kEdge R f_o43 (es.getD 0 undef) (List.replicate (↑l_.length : Int).toNat (.slice none 0 0)) (mk (↑l_.length : Int) ([] : List Edge)) ∧ capOf (es.getD 0 undef) = (mk (↑l_.length : Int) ([] : List Edge)).length ∧ True) ∨ (fl = [false, true, false] ∧ O.Perm ([box b5 [(.int .i64 0), (.int .i64 0), (.slice none 0 0)] 27, box b13 [v7] 106, f18, box (blkOf (es.getD 1 undef)) [(.int .i64 0), (.int .i64 0), (.slice none 0 0)] 27] ++ A) ∧ True) ∨ (fl = [true, true, false] ∧ ∃ (f_o43 : Frag), O.Perm ([box b5 [(.int .i64 0), (.int .i64 0), (.slice none 0 0)] 27, box b13 [v7] 106, f18, f_o43, box (blkOf (es.getD 1 undef)) [(.int .i64 0), (.int .i64 0), (.slice none 0 0)] 27] ++ A) ∧ N2 true kEdge R f_o43 (es.getD 0 undef) (List.replicate (↑l_.length : Int).toNat (.slice none 0 0)) (mk (↑l_.length : Int) ([] : List Edge)) ∧ capOf (es.getD 0 undef) = (mk (↑l_.length : Int) ([] : List Edge)).length ∧ True) ∨ (fl = [true, true, true] ∧ ∃ (f_o43 : Frag), O.Perm ([box b5 [(.int .i64 0), (.int .i64 0), (.slice none 0 0)] 27, box b13 [v7] 106, f18, f_o43, box (blkOf (es.getD 1 undef)) [(.int .i64 m.inputs), (.int .i64 m.outputs), (es.getD 0 undef)] 27] ++ A) ∧ N2 true kEdge R f_o43 (es.getD 0 undef) (List.replicate (↑l_.length : Int).toNat (.slice none 0 0)) (mk (↑l_.length : Int) ([] : List Edge)) ∧ capOf (es.getD 0 undef) = (mk (↑l_.length : Int) ([] : List Edge)).length ∧ True)) mixed (by kernel_rfl) ⟨(monoE_of mono_p), (monoE_of mono_x), (monoE_of mono_p), (monoE_of mono_x), (monoE_of mono_x), (monoE_of mono_x), (fun _ _ _ _ _ h => h), (fun _ _ _ _ _ h => h), (fun _ _ _ _ _ h => h), (fun _ _ _ _ _ h => h), trivial⟩ (by
        rintro fl es R R' O hle (⟨rfl, hp, _⟩ | ⟨rfl, f_o43, hp, h_o43, c_o43, _⟩ | ⟨rfl, hp, _⟩ | ⟨rfl, f_o43, hp, h_o43, c_o43, _⟩ | ⟨rfl, f_o43, hp, h_o43, c_o43, _⟩)
        · exact (.inl ⟨rfl, hp, trivial⟩)
        · exact (.inr (.inl ⟨rfl, f_o43, hp, (h_o43.mono hle), c_o43, trivial⟩))
        · exact (.inr (.inr (.inl ⟨rfl, hp, trivial⟩)))
        · exact (.inr (.inr (.inr (.inl ⟨rfl, f_o43, hp, (h_o43.mono hle), c_o43, trivial⟩))))
        · exact (.inr (.inr (.inr (.inr ⟨rfl, f_o43, hp, (h_o43.mono hle), c_o43, trivial⟩))))) ⟨(fun _ _ _ _ _ h => h), (fun _ _ _ _ _ h => h), (fun _ _ _ _ _ h => h), (fun _ _ _ _ _ h => h), (fun _ _ _ _ _ h => h), (fun _ _ _ _ _ h => h), (fun _ _ _ _ _ h => h), (fun es es' v R hs h => by have e0 := hs 0 (by kernel_rfl); show phX (.agg #[(.int .i64 m.inputs), (.int .i64 m.outputs), (es'.getD 0 undef)]) v R; rw [← e0]; exact h), (fun _ _ _ _ _ h => h), (fun _ _ _ _ _ h => h), trivial⟩ (fun es => .inl ⟨rfl, (List.Perm.refl _), trivial⟩) ⟨?_, ?_, ?_, ?_, ?_, ?_, ?_, ?_, ?_, ?_, trivial⟩ fun R45 le46 => ?_
    · intro l R0q fl O hle ha hd hk hW
      have a2 : l 2 = v1 := ha 2 rfl
      exact ph_fieldR fd27_0 pt_Mach0 a2 ((h2.mono le17).mono hle)
    · intro l R1q fl O hle ha hd hk hW
      obtain ⟨d0, _⟩ := hd
      have f28 : phP (tInt .i64) m.inputs (l 28) R1q := d0 rfl
      exact ph_exact (ph_loadR ty3 rfl f28) (fun _ _ h => vrep_int.1 h)
    · intro l R2q fl O hle ha hd hk hW
      have a2 : l 2 = v1 := ha 2 rfl
      exact ph_fieldR fd27_1 pt_Mach1 a2 ((h2.mono le17).mono hle)
    · intro l R3q fl O hle ha hd hk hW
      obtain ⟨d0, _⟩ := hd
      have f30 : phP (tInt .i64) m.outputs (l 30) R3q := d0 rfl
      exact ph_exact (ph_loadR ty3 rfl f30) (fun _ _ h => vrep_int.1 h)
    · intro l R4q fl O hle ha hd hk hW
      have a1 : l 1 = v_l_ := ha 1 rfl
      exact ph_val (val_move a1)
    · intro l R5q fl O hle ha hd hk hW
      obtain ⟨d0, _⟩ := hd
      have f32 : l 32 = v_l_ := d0 rfl
      exact ph_val (val_lenR rfl Try.underlying36 f32 (sl_s ((h_l_.mono (le4.trans le17)).mono hle)))
    · intro l R6q fl O hle ha hd hk hf hW
      obtain ⟨d0, d1, _⟩ := hd
      have f33 : l 33 = (.int .i64 (↑l_.length : Int)) := d0 rfl
      rcases hW with ⟨rfl, hp, _⟩ | ⟨rfl, f_o43, hp, h_o43, c_o43, _⟩ | ⟨rfl, hp, _⟩ | ⟨rfl, f_o43, hp, h_o43, c_o43, _⟩ | ⟨rfl, f_o43, hp, h_o43, c_o43, _⟩
      · refine eff_perm hp ?_
        refine eff_perm (O1 := [] ++ ([box b5 [(.int .i64 0), (.int .i64 0), (.slice none 0 0)] 27, box b13 [v7] 106, f18] ++ A)) (List.Perm.refl _) ?_
        refine Eff.mono (eff_nmake (t := true) (T := kEdge) (n := (↑l_.length : Int).toNat) Try.underlying25 zh50 (idx_nonneg f33 g42.1) (idx_nonneg f33 g42.1) (okM_b g42) (okM_n g42)) ?_
        rintro v R' O' hle' ⟨_, rfl, rfl, f_o43, rfl, h_o43, c_o43z⟩
        exact ⟨(n2_one h_o43), .inr (.inl ⟨rfl, f_o43, (pk 1 rfl (pk 1 rfl (pk 1 rfl (pk 0 rfl (List.Perm.refl _))))), h_o43, (c_o43z.trans List.length_replicate.symm), trivial⟩)⟩
      · cases hf
      · refine eff_perm hp ?_
        refine eff_perm (O1 := [] ++ ([box b5 [(.int .i64 0), (.int .i64 0), (.slice none 0 0)] 27, box b13 [v7] 106, f18, box (blkOf (l 9)) [(.int .i64 0), (.int .i64 0), (.slice none 0 0)] 27] ++ A)) (List.Perm.refl _) ?_
        refine Eff.mono (eff_nmake (t := true) (T := kEdge) (n := (↑l_.length : Int).toNat) Try.underlying25 zh50 (idx_nonneg f33 g42.1) (idx_nonneg f33 g42.1) (okM_b g42) (okM_n g42)) ?_
        rintro v R' O' hle' ⟨_, rfl, rfl, f_o43, rfl, h_o43, c_o43z⟩
        exact ⟨(n2_one h_o43), .inr (.inr (.inr (.inl ⟨rfl, f_o43, (pk 1 rfl (pk 1 rfl (pk 1 rfl (pk 0 rfl (pk 0 rfl (List.Perm.refl _)))))), h_o43, (c_o43z.trans List.length_replicate.symm), trivial⟩)))⟩
      · cases hf
      · cases hf
    · intro l R7q fl O hle ha hd hk hW
      obtain ⟨d0, d1, d2, _⟩ := hd
      have f29 : l 29 = (.int .i64 m.inputs) := d0 rfl
      have f31 : l 31 = (.int .i64 m.outputs) := d1 rfl
      have f34 : (l 34).oneCell' = true := d2 rfl
      exact ph_val (val_buildC [(0, (.int .i64 m.inputs)), (1, (.int .i64 m.outputs)), (2, (.agg #[(l 34)]))] (ps := [(0, (.int .i64 m.inputs)), (1, (.int .i64 m.outputs)), (2, (l 34))]) (v := (.agg #[(.int .i64 m.inputs), (.int .i64 m.outputs), (l 34)])) (by simp only [List.map, ev, f29, f31] <;> rfl) (by simp only [List.map_cons, List.map_nil, (cells_of_one f34)]; rfl) (fun w => by kernel_rfl))
    · intro l R8q fl O hle ha hd hk hf hW
      rcases hW with ⟨rfl, hp, _⟩ | ⟨rfl, f_o43, hp, h_o43, c_o43, _⟩ | ⟨rfl, hp, _⟩ | ⟨rfl, f_o43, hp, h_o43, c_o43, _⟩ | ⟨rfl, f_o43, hp, h_o43, c_o43, _⟩
      · refine eff_perm hp ?_
        refine Eff.mono (eff_alloc za27) ?_
        rintro v R' O' hle' ⟨rfl, b, rfl, rfl⟩
        exact ⟨rfl, .inr (.inr (.inl ⟨rfl, (pk 1 rfl (pk 1 rfl (pk 1 rfl (pk 0 rfl (List.Perm.refl _))))), trivial⟩))⟩
      · refine eff_perm hp ?_
        refine Eff.mono (eff_alloc za27) ?_
        rintro v R' O' hle' ⟨rfl, b, rfl, rfl⟩
        exact ⟨rfl, .inr (.inr (.inr (.inl ⟨rfl, f_o43, (pk 1 rfl (pk 1 rfl (pk 1 rfl (pk 1 rfl (pk 0 rfl (List.Perm.refl _)))))), h_o43, c_o43, trivial⟩)))⟩
      · cases hf
      · cases hf
      · cases hf
    · intro l R9q fl O hle ha hd hk hf hW
      obtain ⟨d0, d1, d2, d3, d4, d5, d6, d7, d8, d9, d10, _⟩ := hd
      have f9 : l 9 = (.pointer (some ⟨(blkOf (l 9)), 0, none⟩)) := d0 rfl
      have f35 : l 35 = (.agg #[(.int .i64 m.inputs), (.int .i64 m.outputs), (l 34)]) := d1 rfl
      rcases hW with ⟨rfl, hp, _⟩ | ⟨rfl, f_o43, hp, h_o43, c_o43, _⟩ | ⟨rfl, hp, _⟩ | ⟨rfl, f_o43, hp, h_o43, c_o43, _⟩ | ⟨rfl, f_o43, hp, h_o43, c_o43, _⟩
      · exact kn_no hk (by kernel_rfl)
      · exact kn_no hk (by kernel_rfl)
      · exact kn_no hk (by kernel_rfl)
      · refine eff_perm hp ?_
        refine Eff.mono (eff_store (i := 4) (vs := [(.int .i64 m.inputs), (.int .i64 m.outputs), (l 34)]) sz27 f9 f35 rfl rfl rfl (Nat.le_of_ble_eq_true rfl) (one_cons rfl (one_cons rfl (one_cons (n2_one h_o43) one_nil)))) ?_
        rintro v R' O' hle' ⟨_, rfl, rfl⟩
        exact ⟨trivial, .inr (.inr (.inr (.inr ⟨rfl, f_o43, (List.Perm.refl _), h_o43, c_o43, trivial⟩)))⟩
      · cases hf
    intro v47
    intro v48
    intro v49
    intro v50
    intro v51
    intro v52
    intro v53
    intro v54
    intro v55
    intro h56
    intro h57
    intro h58
    intro h59
    intro h60
    intro h61
    intro h62
    intro h63
    intro h64
    rintro OO65 (⟨e, _⟩ | ⟨e, _⟩ | ⟨e, _⟩ | ⟨e, _⟩ | ⟨_, f66, hp, h67, c68, _⟩)
    · cases e
    · cases e
    · cases e
    · cases e
    refine ⟨[], _, hp, ?_⟩
    replace h67 : N2 true kEdge R45 f66 v53 (List.replicate (↑l_.length : Int).toNat (.slice none 0 0)) (mk (↑l_.length : Int) ([] : List Edge)) := h67
    replace c68 : capOf v53 = (mk (↑l_.length : Int) ([] : List Edge)).length := c68
    obtain ⟨b69, rfl⟩ : ∃ b, v55 = .pointer (some ⟨b, 0, none⟩) := ⟨_, h64⟩
    obtain rfl := Eq.symm h57
    obtain rfl := Eq.symm h59
    obtain rfl := Eq.symm h60
    obtain rfl := Eq.symm h61
    replace h63 : phX (.agg #[(.int .i64 m.inputs), (.int .i64 m.outputs), v53]) v54 R45 := h63
    obtain rfl := Eq.symm h63
    refine wo_nil ?_
    replace hd0 := bd_some hd0; obtain ⟨o70, hd1, hd0⟩ := hd0
    refine wg_meet (γ := (List (List Edge)) × Frag) true [36, 37, 38, 39, 40, 41, 42, 10, 11, 43, 44, 45, 46, 47, 48, 49, 50, 51, 52, 53, 54, 55, 56, 57, 58, 59, 60, 13, 12, 61, 62, 63, 64, 65, 66, 67, 68, 69, 70, 71, 72] (fun g => []) (fun g => [box b5 [(.int .i64 0), (.int .i64 0), (.slice none 0 0)] 27, box b69 [(.int .i64 m.inputs), (.int .i64 m.outputs), v53] 27, g.2] ++ A) (fun g R => o70 = g.1 ∧ NRep true kEdge R g.2 v53 g.1 ∧ capOf v53 = g.1.length ∧ True) ?_ ?_
    ·
      refine wg_seq ?_
      refine wg_region ?_
      refine wo_v rfl (val_move (v := v_l_) rfl) ?_
      refine wo_v rfl (val_lenR rfl Try.underlying36 rfl (sl_s (h_l_.mono ((le4.trans le17).trans le46)))) ?_
      refine wo_v rfl (val_move (v := (.int .i64 0)) rfl) ?_
      refine wo_nil ?_
      refine wg_block ?_
      refine wg_loopS (γ := Nat × Int × (List (List Edge)) × Frag) true [39, 40, 41, 42, 10, 11, 43, 44, 45, 46, 47, 48, 49, 50, 51, 52, 53, 54, 55, 56, 57, 58, 59, 60, 13, 12, 61, 62, 63, 64, 65, 66, 67, 68, 69, 70, 71, 72, 38] (fun g => [(38, (.int .i64 g.2.1))]) (fun g => [box b5 [(.int .i64 0), (.int .i64 0), (.slice none 0 0)] 27, box b13 [v7] 106, f18, box b69 [(.int .i64 m.inputs), (.int .i64 m.outputs), v53] 27, g.2.2.2] ++ A) (fun g R => walks_part_L2 N m l_ o15 g.1 g.2.1 g.2.2.1 = some o70 ∧ NRep true kEdge R g.2.2.2 v53 g.2.2.1 ∧ capOf v53 = g.2.2.1.length ∧ True) (fun g => g.1) (N, 0, (mk (↑l_.length : Int) ([] : List Edge)), f66) ⟨rfl, trivial⟩ ⟨[], (pk 0 rfl (pk 0 rfl (pk 0 rfl (pk 1 rfl (pk 0 rfl (List.Perm.refl _))))))⟩ ⟨hd1, (nrep_of h67), c68, trivial⟩ (fun _ => rfl) ?_
      clear hd1
      rintro ⟨F77, x78, x79, f82⟩ j189 D190 R80 hD191 le81 ⟨hd1, ⟨V84, h83⟩, ht85, _⟩
      obtain rfl := hD191 rfl
      rcases F77 with _ | F77
      · exact none_elim hd1
      replace hd1 : walks_part_L2 N m l_ o15 (F77 + 1) x78 x79 = some o70 := hd1; rw [walks_part_L2] at hd1
      refine wg_seq ?_
      refine wg_region ?_
      refine wo_v rfl (val_lss rfl rfl) ?_
      refine wo_nil ?_
      refine wg_seq ?_
      refine wg_cond rfl (fun e86 => ?_) (fun e86 => ?_)
      · replace hd1 := sel_t e86 hd1; clear e86
        refine wg_skip ?_
        replace hd1 := bd_some hd1; obtain ⟨o87, hd2, hd1⟩ := hd1
        refine wg_meet (γ := (List (List Edge)) × Frag) true [40, 41, 42, 10, 11, 43, 44, 45, 46, 47, 48, 49, 50, 51, 52, 53, 54, 55, 56, 57, 58, 59, 60, 13, 12, 61, 62, 63, 64, 65, 66, 67, 68, 69, 70, 71] (fun g => []) (fun g => [box b5 [(.int .i64 0), (.int .i64 0), (.slice none 0 0)] 27, box b13 [v7] 106, f18, box b69 [(.int .i64 m.inputs), (.int .i64 m.outputs), v53] 27, g.2] ++ A) (fun g R => o87 = g.1 ∧ NRep true kEdge R g.2 v53 g.1 ∧ capOf v53 = g.1.length ∧ True) ?_ ?_
        ·
          refine wg_block ?_
          refine wg_seq ?_
          refine wg_region ?_
          refine wo_v rfl (val_move (v := (.int .i64 x78)) rfl) ?_
          have g94 := (gd_some hd2).1; replace hd2 := (gd_some hd2).2
          refine wo_indexR (i := x78.toNat) rfl sl36 rfl (sl_s (h_l_.mono (((le4.trans le17).trans le46).trans le81))) (idx_nonneg rfl g94.1) (okI_lt g94) fun v95 h96 => ?_
          refine wo_loadR rfl ty3 rfl h96 fun v97 h98 => ?_
          obtain rfl := vrep_int.1 h98
          refine wo_v rfl (val_assign (v := (.int .i64 x78)) rfl) ?_
          refine wo_v rfl (val_assign (v := (.int .i64 (ix l_ x78))) rfl) ?_
          refine wo_nil ?_
          refine wg_seq ?_
          have g99 := (gd_some hd2).1; replace hd2 := (gd_some hd2).2
          have g101 := (gd_some hd2).1; replace hd2 := (gd_some hd2).2
          refine wg_free [5, 7] [(fun es => phX (.pointer (some ⟨b69, 2, none⟩))), (fun es => phX v53), (fun es => phX (.int .i64 x78)), (fun es => phP (tInt .i64) m.inputs), (fun es => phX (.int .i64 m.inputs)), (fun es => (fun v _ => v.oneCell' = true)), (fun es => (fun u _ => OPtr tHdr v53 V84 u x78.toNat)), (fun es => (fun _ _ => True))] (fun fl es R O => (fl = [false, false] ∧ O.Perm ([box b5 [(.int .i64 0), (.int .i64 0), (.slice none 0 0)] 27, box b13 [v7] 106, f18, box b69 [(.int .i64 m.inputs), (.int .i64 m.outputs), v53] 27, f82] ++ A) ∧ True) ∨ (fl = [true, false] ∧ ∃ (f_o100 : Frag), O.Perm ([box b5 [(.int .i64 0), (.int .i64 0), (.slice none 0 0)] 27, box b13 [v7] 106, f18, box b69 [(.int .i64 m.inputs), (.int .i64 m.outputs), v53] 27, f82, f_o100] ++ A) ∧ ORep kEdge R f_o100 (es.getD 0 undef) (mk m.inputs (⟨(0 : Int), (0 : Int)⟩ : Edge)) ∧ capOf (es.getD 0 undef) = (mk m.inputs (⟨(0 : Int), (0 : Int)⟩ : Edge)).length ∧ True) ∨ (fl = [true, true] ∧ ∃ (f_o43 : Frag), O.Perm ([box b5 [(.int .i64 0), (.int .i64 0), (.slice none 0 0)] 27, box b13 [v7] 106, f18, box b69 [(.int .i64 m.inputs), (.int .i64 m.outputs), v53] 27, f_o43] ++ A) ∧ N2 true kEdge R f_o43 v53 (V84.set x78.toNat (es.getD 0 undef)) (up x79 x78 (mk m.inputs (⟨(0 : Int), (0 : Int)⟩ : Edge))) ∧ True)) mixed (by kernel_rfl) ⟨(monoE_of mono_x), (monoE_of mono_x), (monoE_of mono_x), (monoE_of mono_p), (monoE_of mono_x), (fun _ _ _ _ _ h => h), (monoE_of (fun _ _ _ _ h => h)), (fun _ _ _ _ _ h => h), trivial⟩ (by
              rintro fl es R R' O hle (⟨rfl, hp, _⟩ | ⟨rfl, f_o100, hp, h_o100, c_o100, _⟩ | ⟨rfl, f_o43, hp, h_o43, _⟩)
              · exact (.inl ⟨rfl, hp, trivial⟩)
              · exact (.inr (.inl ⟨rfl, f_o100, hp, (h_o100.mono hle), c_o100, trivial⟩))
              · exact (.inr (.inr ⟨rfl, f_o43, hp, (h_o43.mono hle), trivial⟩))) ⟨(fun _ _ _ _ _ h => h), (fun _ _ _ _ _ h => h), (fun _ _ _ _ _ h => h), (fun _ _ _ _ _ h => h), (fun _ _ _ _ _ h => h), (fun _ _ _ _ _ h => h), (fun _ _ _ _ _ h => h), (fun _ _ _ _ _ h => h), trivial⟩ (fun es => .inl ⟨rfl, (List.Perm.refl _), trivial⟩) ⟨?_, ?_, ?_, ?_, ?_, ?_, ?_, ?_, trivial⟩ fun R102 le103 => ?_
          · intro l R0q fl O hle ha hd hk hW
            have a9 : l 9 = (.pointer (some ⟨b69, 0, none⟩)) := ha 9 rfl
            exact ph_val (val_fieldB fd27_2 a9)
          · intro l R1q fl O hle ha hd hk hW
            obtain ⟨d0, _⟩ := hd
            have f43 : l 43 = (.pointer (some ⟨b69, 2, none⟩)) := d0 rfl
            rcases hW with ⟨rfl, hp, _⟩ | ⟨rfl, f_o100, hp, h_o100, c_o100, _⟩ | ⟨rfl, f_o43, hp, h_o43, _⟩
            · exact eff_permP hp (ph_val (val_loadB (i := 3) ag25 f43 rfl rfl))
            · exact eff_permP hp (ph_val (val_loadB (i := 3) ag25 f43 rfl rfl))
            · exact kn_no hk (by kernel_rfl)
          · intro l R2q fl O hle ha hd hk hW
            have a10 : l 10 = (.int .i64 x78) := ha 10 rfl
            exact ph_val (val_move a10)
          · intro l R3q fl O hle ha hd hk hW
            have a2 : l 2 = v1 := ha 2 rfl
            exact ph_fieldR fd27_0 pt_Mach0 a2 ((h2.mono ((le17.trans le46).trans le81)).mono hle)
          · intro l R4q fl O hle ha hd hk hW
            obtain ⟨d0, _⟩ := hd
            have f46 : phP (tInt .i64) m.inputs (l 46) R4q := d0 rfl
            exact ph_exact (ph_loadR ty3 rfl f46) (fun _ _ h => vrep_int.1 h)
          · intro l R5q fl O hle ha hd hk hf hW
            obtain ⟨d0, d1, _⟩ := hd
            have f47 : l 47 = (.int .i64 m.inputs) := d0 rfl
            rcases hW with ⟨rfl, hp, _⟩ | ⟨rfl, f_o100, hp, h_o100, c_o100, _⟩ | ⟨rfl, f_o43, hp, h_o43, _⟩
            · refine eff_perm hp ?_
              refine Eff.mono (eff_make (T := kEdge) (n := m.inputs.toNat) (c := m.inputs.toNat) Try.underlying50 zo49 (idx_nonneg f47 g99.1) (idx_nonneg f47 g99.1) (Nat.le_refl _) (okM_b g99) (okM_n g99)) ?_
              rintro v R' O' hle' ⟨rfl, hc, f, rfl, ho⟩
              exact ⟨(orep_one ho), .inr (.inl ⟨rfl, f, (pk 1 rfl (pk 1 rfl (pk 1 rfl (pk 1 rfl (pk 1 rfl (pk 0 rfl (List.Perm.refl _))))))), ho, (hc.trans List.length_replicate.symm), trivial⟩)⟩
            · cases hf
            · cases hf
          · intro l R6q fl O hle ha hd hk hW
            obtain ⟨d0, d1, d2, d3, d4, d5, d6, d7, _⟩ := hd
            have f44 : l 44 = v53 := d0 rfl
            have f45 : l 45 = (.int .i64 x78) := d1 rfl
            exact ph_indexN (i := x78.toNat) (sl_hdr (b := true) sl25) f44 (h83.mono hle) (idx_nonneg f45 g101.1) (okI_lt g101)
          · intro l R7q fl O hle ha hd hk hf hW
            obtain ⟨d0, d1, d2, d3, d4, d5, d6, d7, _⟩ := hd
            have f49 : (fun u _ => OPtr tHdr v53 V84 u x78.toNat) (l 49) R7q := d0 rfl
            have f48 : (l 48).oneCell' = true := d1 rfl
            rcases hW with ⟨rfl, hp, _⟩ | ⟨rfl, f_o100, hp, h_o100, c_o100, _⟩ | ⟨rfl, f_o43, hp, h_o43, _⟩
            · exact kn_no hk (by kernel_rfl)
            · refine eff_perm hp ?_
              refine eff_perm (O1 := [f82, f_o100] ++ ([box b5 [(.int .i64 0), (.int .i64 0), (.slice none 0 0)] 27, box b13 [v7] 106, f18, box b69 [(.int .i64 m.inputs), (.int .i64 m.outputs), v53] 27] ++ A)) (pk 4 rfl (pk 4 rfl (pk 0 rfl (pk 0 rfl (pk 0 rfl (pk 0 rfl (List.Perm.refl _))))))) ?_
              refine Eff.mono (eff_setN (r := x78.toNat) (ty_hdr (b := true) ty50) (h83.mono hle) (okI_lt g101) rfl f49 rfl h_o100 (fun _ => c_o100)) ?_
              rintro v R' O' hle' ⟨_, rfl, rfl, f, rfl, h⟩
              exact ⟨trivial, .inr (.inr ⟨rfl, f, (pk 1 rfl (pk 1 rfl (pk 1 rfl (pk 1 rfl (pk 0 rfl (List.Perm.refl _)))))), h, trivial⟩)⟩
            · cases hf
          intro v104
          intro v105
          intro v106
          intro v107
          intro v108
          intro v109
          intro v110
          intro h111
          intro h112
          intro h113
          intro h114
          intro h115
          intro h116
          intro h117
          rintro OO118 (⟨e, _⟩ | ⟨e, _⟩ | ⟨_, f119, hp, h120, _⟩)
          · cases e
          · cases e
          refine ⟨[], _, hp, ?_⟩
          replace h120 : N2 true kEdge R102 f119 v53 (V84.set x78.toNat v109) (up x79 x78 (mk m.inputs (⟨(0 : Int), (0 : Int)⟩ : Edge))) := h120
          obtain rfl := Eq.symm h111
          obtain rfl := Eq.symm h112
          obtain rfl := Eq.symm h113
          obtain rfl := Eq.symm h115
          refine wo_nil ?_
          refine wg_seq ?_
          refine wg_region ?_
          refine wo_fieldR rfl fd27_2 pt_Mach2 rfl (h2.mono (((le17.trans le46).trans le81).trans le103)) fun v122 h123 => ?_
          refine wo_loadR rfl ty25 rfl h123 fun v124 h125 => ?_
          refine wo_v rfl (val_move (v := (.int .i64 (ix l_ x78))) rfl) ?_
          have g126 := (gd_some hd2).1; replace hd2 := (gd_some hd2).2
          refine wo_indexR (i := (ix l_ x78).toNat) rfl sl25 rfl (sl_s h125) (idx_nonneg rfl g126.1) (okI_lt g126) fun v127 h128 => ?_
          refine wo_loadR rfl ty50 rfl h128 fun v129 h130 => ?_
          refine wo_v rfl (val_lenR rfl Try.underlying50 rfl (sl_s h130)) ?_
          refine wo_v rfl (val_move (v := (.int .i64 0)) rfl) ?_
          refine wo_nil ?_
          refine wg_block ?_
          refine wg_loopS (γ := Nat × Int × (List (List Edge)) × Frag) true [57, 58, 59, 60, 13, 12, 61, 62, 63, 64, 65, 66, 67, 68, 69, 70, 71, 56] (fun g => [(56, (.int .i64 g.2.1))]) (fun g => [box b5 [(.int .i64 0), (.int .i64 0), (.slice none 0 0)] 27, box b13 [v7] 106, f18, box b69 [(.int .i64 m.inputs), (.int .i64 m.outputs), v53] 27, g.2.2.2] ++ A) (fun g R => walks_part_L3 N m l_ o15 x78 g.1 g.2.1 g.2.2.1 = some o87 ∧ NRep true kEdge R g.2.2.2 v53 g.2.2.1 ∧ capOf v53 = g.2.2.1.length ∧ True) (fun g => g.1) (N, 0, (up x79 x78 (mk m.inputs (⟨(0 : Int), (0 : Int)⟩ : Edge))), f119) ⟨rfl, trivial⟩ ⟨[], List.Perm.refl _⟩ ⟨hd2, (nrep_of h120), (ht85.trans List.length_set.symm), trivial⟩ (fun _ => rfl) ?_
          clear hd2
          rintro ⟨F131, x132, x133, f136⟩ j182 D183 R134 hD184 le135 ⟨hd2, ⟨V138, h137⟩, ht139, _⟩
          obtain rfl := hD184 rfl
          rcases F131 with _ | F131
          · exact none_elim hd2
          replace hd2 : walks_part_L3 N m l_ o15 x78 (F131 + 1) x132 x133 = some o87 := hd2; rw [walks_part_L3] at hd2
          refine wg_seq ?_
          refine wg_region ?_
          refine wo_v rfl (val_lss rfl rfl) ?_
          refine wo_nil ?_
          refine wg_seq ?_
          refine wg_cond rfl (fun e140 => ?_) (fun e140 => ?_)
          · replace hd2 := sel_t e140 hd2; clear e140
            refine wg_skip ?_
            refine wg_seq ?_
            refine wg_block ?_
            refine wg_seq ?_
            refine wg_region ?_
            refine wo_v rfl (val_move (v := (.int .i64 x132)) rfl) ?_
            have g141 := (gd_some hd2).1; replace hd2 := (gd_some hd2).2
            refine wo_indexR (i := x132.toNat) rfl sl50 rfl (sl_s (h130.mono le135)) (idx_nonneg rfl g141.1) (okI_lt g141) fun v142 h143 => ?_
            refine wo_loadR rfl ty49 rfl h143 fun v144 h145 => ?_
            obtain rfl := vrep_Edge.1 h145
            refine wo_alloc rfl za49 fun b146 => ?_
            refine wo_v rfl (val_assign (v := (.int .i64 x132)) rfl) ?_
            refine wo_store (i := 0) (vs := [(.int .i64 ((ix (ix m.rows (ix l_ x78)) x132).to)), (.int .i64 ((ix (ix m.rows (ix l_ x78)) x132).out))]) sz49 rfl rfl rfl rfl rfl rfl (one_cons rfl (one_cons rfl one_nil)) ?_
            refine wo_nil ?_
            have g148 := (gd_some hd2).1; replace hd2 := (gd_some hd2).2
            replace hd2 := bd_some hd2; obtain ⟨y149, c150, hd2⟩ := hd2
            have g151 := (gd_some hd2).1; replace hd2 := (gd_some hd2).2
            refine wg_drawn 10 [] [phX (.pointer (some ⟨b69, 2, none⟩)), phX v53, phX (.int .i64 x78), (fun u _ => OPtr tHdr v53 V138 u x78.toNat), phX (V138.getD x78.toNat default), phX (.int .i64 x132), phX (.func (.func 65) #[] #[(.pointer (some ⟨b13, 0, none⟩))]), phX (.agg #[(.int .i64 ((ix (ix m.rows (ix l_ x78)) x132).to)), (.int .i64 ((ix (ix m.rows (ix l_ x78)) x132).out))]), phX (enc_Edge y149), (fun u _ => OPtr kEdge (V138.getD x78.toNat default) (x133.getD x78.toNat default) u x132.toNat)] mixed (by kernel_rfl) (monoOk_of ⟨mono_x, mono_x, mono_x, (fun _ _ _ _ h => h), mono_x, mono_x, mono_x, mono_x, mono_x, (fun _ _ _ _ h => h), trivial⟩) ⟨?_, ?_, ?_, ?_, ?_, ?_, ?_, ?_, ?_, ?_, trivial⟩ fun R152 le153 => ?_
            · intro l R0q hle ha hd
              have a9 : l 9 = (.pointer (some ⟨b69, 0, none⟩)) := ha 9 rfl
              exact gstep_plain rfl rfl rfl (ph_val (val_fieldB fd27_2 a9))
            · intro l R1q hle ha hd
              obtain ⟨d0, _⟩ := hd
              have f61 : l 61 = (.pointer (some ⟨b69, 2, none⟩)) := d0 rfl
              exact gstep_plain rfl rfl rfl (ph_val (val_loadB (i := 4) ag25 f61 rfl rfl))
            · intro l R2q hle ha hd
              have a10 : l 10 = (.int .i64 x78) := ha 10 rfl
              exact gstep_plain rfl rfl rfl (ph_val (val_move a10))
            · intro l R3q hle ha hd
              obtain ⟨d0, d1, _⟩ := hd
              have f62 : l 62 = v53 := d0 rfl
              have f63 : l 63 = (.int .i64 x78) := d1 rfl
              exact gstep_plain rfl rfl rfl (ph_indexN (i := x78.toNat) (sl_hdr (b := true) sl25) f62 (h137.mono hle) (idx_nonneg f63 g148.1) (okI_lt g148))
            · intro l R4q hle ha hd
              obtain ⟨d0, _⟩ := hd
              have f64 : (fun u _ => OPtr tHdr v53 V138 u x78.toNat) (l 64) R4q := d0 rfl
              exact gstep_plain rfl rfl rfl (ph_loadN (i := x78.toNat) (j := 5) (ty_hdr (b := true) ty50) (h137.mono hle) rfl rfl f64 (okI_lt g148))
            · intro l R5q hle ha hd
              have a12 : l 12 = (.int .i64 x132) := ha 12 rfl
              exact gstep_plain rfl rfl rfl (ph_val (val_move a12))
            · intro l R6q hle ha hd
              have a8 : l 8 = (.func (.func 65) #[] #[(.pointer (some ⟨b13, 0, none⟩))]) := ha 8 rfl
              exact gstep_plain rfl rfl rfl (ph_val (val_move a8))
            · intro l R7q hle ha hd
              have a13 : l 13 = (.pointer (some ⟨b146, 0, none⟩)) := ha 13 rfl
              exact gstep_plain rfl rfl rfl (ph_val (val_loadBA (i := 0) ag49 sz49 a13 rfl rfl rfl))
            · intro l R8q hle ha hd
              obtain ⟨d0, d1, _⟩ := hd
              have f67 : l 67 = (.func (.func 65) #[] #[(.pointer (some ⟨b13, 0, none⟩))]) := d0 rfl
              have f68 : l 68 = (.agg #[(.int .i64 ((ix (ix m.rows (ix l_ x78)) x132).to)), (.int .i64 ((ix (ix m.rows (ix l_ x78)) x132).out))]) := d1 rfl
              exact gstep_plain rfl rfl rfl (ph_lend (cs := [(.pointer (some ⟨b13, 0, none⟩))]) (vs := [(.agg #[(.int .i64 ((ix (ix m.rows (ix l_ x78)) x132).to)), (.int .i64 ((ix (ix m.rows (ix l_ x78)) x132).out))])]) (φ := fun v => v = (enc_Edge y149)) en65 f67 (by simp only [List.map, ev, f68] <;> rfl) (fun R1q l1q llq => c_walks_part_1 (prep_box (lent_b 2 rfl llq) (rep_one rfl (lent_m 3 rfl ((h19.mono (((le46.trans le81).trans le103).trans le135)).mono hle) l1q llq : VRep (tMap (Value.int .i64) (Value.int .i64)) R1q v7 o15))) c150))
            · intro l R9q hle ha hd
              obtain ⟨d0, d1, d2, d3, d4, d5, d6, d7, d8, d9, d10, _⟩ := hd
              have f65 : l 65 = (V138.getD x78.toNat default) := d0 rfl
              have f66 : l 66 = (.int .i64 x132) := d1 rfl
              exact gstep_plain rfl rfl rfl (ph_indexNR (i := x132.toNat) (r := x78.toNat) sl50 (h137.mono hle) (okI_lt g148) f65 (idx_nonneg f66 g151.1) (okI_lt g151))
            intro v154 h155
            intro v156 h157
            intro v158 h159
            intro v160 h161
            intro v162 h163
            intro v164 h165
            intro v166 h167
            intro v168 h169
            intro v170 h171
            intro v172 h173
            obtain rfl := Eq.symm h155
            obtain rfl := Eq.symm h157
            obtain rfl := Eq.symm h159
            obtain rfl := Eq.symm h163
            obtain rfl := Eq.symm h165
            obtain rfl := Eq.symm h167
            obtain rfl := Eq.symm h169
            obtain rfl := Eq.symm h171
            refine wo_turn0 (Oc := [f136]) (Or := [box b146 [(.int .i64 ((ix (ix m.rows (ix l_ x78)) x132).to)), (.int .i64 ((ix (ix m.rows (ix l_ x78)) x132).out))] 49, box b5 [(.int .i64 0), (.int .i64 0), (.slice none 0 0)] 27, box b13 [v7] 106, f18, box b69 [(.int .i64 m.inputs), (.int .i64 m.outputs), v53] 27] ++ A) (pk 5 rfl (pk 0 rfl (pk 0 rfl (pk 0 rfl (pk 0 rfl (pk 0 rfl (List.Perm.refl _))))))) (eff_storeN (i := x132.toNat) (r := x78.toNat) ty49 (h137.mono le153) (okI_lt g148) rfl h173 (okI_lt g151) rfl (vrep_Edge.2 rfl)) ?_
            rintro v176 R179 Oc178 le180 ⟨rfl, f174, rfl, h175⟩
            replace h175 : N2 true kEdge _ f174 v53 V138 (up x133 x78 (up (ix x133 x78) x132 y149)) := h175
            refine wo_nil ?_
            refine wg_region ?_
            have g181 := (gd_some hd2).1; replace hd2 := (gd_some hd2).2
            refine wo_v rfl (val_add rfl rfl g181) ?_
            refine wo_v rfl (val_move (v := (.int .i64 (x132 + 1))) rfl) ?_
            refine wo_nil ?_
            exact ⟨(fun _ => rfl), le153, (by repeat (first | exact off_self | refine off_upd rfl ?_ | refine off_setl rfl ?_ | refine off_mask_sub rfl ?_)), (F131, x132 + 1, (up x133 x78 (up (ix x133 x78) x132 y149)), f174), Nat.lt_succ_self _, ⟨rfl, trivial⟩, ⟨[box b146 [(.int .i64 ((ix (ix m.rows (ix l_ x78)) x132).to)), (.int .i64 ((ix (ix m.rows (ix l_ x78)) x132).out))] 49], (pk 1 rfl (pk 1 rfl (pk 1 rfl (pk 1 rfl (pk 1 rfl (pk 0 rfl (List.Perm.refl _)))))))⟩, hd2, (nrep_of h175), (ht139.trans List.length_set.symm), trivial⟩
          · replace hd2 := sel_f e140 hd2; clear e140
            refine wg_exit ?_
            exact ⟨(fun _ => rfl), (le103.trans le135), (by repeat (first | exact off_self | refine off_upd rfl ?_ | refine off_setl rfl ?_ | refine off_mask_sub rfl ?_)), (x133, f136), trivial, ⟨[], List.Perm.refl _⟩, (Option.some.inj hd2).symm, (nrep_of h137), ht139, trivial⟩
        ·
          rintro ⟨o87, f90⟩ j185 D186 R88 hD187 le89 ⟨rfl, ⟨V92, h91⟩, ht93, _⟩
          obtain rfl := hD187 rfl
          refine wg_region ?_
          have g188 := (gd_some hd1).1; replace hd1 := (gd_some hd1).2
          refine wo_v rfl (val_add rfl rfl g188) ?_
          refine wo_v rfl (val_move (v := (.int .i64 (x78 + 1))) rfl) ?_
          refine wo_nil ?_
          exact ⟨(fun _ => rfl), le89, (by repeat (first | exact off_self | refine off_upd rfl ?_ | refine off_setl rfl ?_ | refine off_mask_sub rfl ?_)), (F77, x78 + 1, o87, f90), Nat.lt_succ_self _, ⟨rfl, trivial⟩, ⟨[], List.Perm.refl _⟩, hd1, (nrep_of h91), ht93, trivial⟩
      · replace hd1 := sel_f e86 hd1; clear e86
        refine wg_exit ?_
        exact ⟨(fun _ => rfl), le81, (by repeat (first | exact off_self | refine off_upd rfl ?_ | refine off_setl rfl ?_ | refine off_mask_sub rfl ?_)), (x79, f82), trivial, ⟨[box b13 [v7] 106, f18], (pk 1 rfl (pk 1 rfl (pk 0 rfl (pk 0 rfl (pk 0 rfl (List.Perm.refl _))))))⟩, (Option.some.inj hd1).symm, (nrep_of h83), ht85, trivial⟩
    ·
      rintro ⟨o70, f73⟩ j192 D193 R71 hD194 le72 ⟨rfl, ⟨V75, h74⟩, ht76, _⟩
      obtain rfl := hD194 rfl
      refine wg_seq ?_
      refine wg_region ?_
      refine wo_v rfl (val_loadBA (i := 1) ag27 sz27 rfl rfl rfl rfl) ?_
      refine wo_store (i := 0) (vs := [(.int .i64 m.inputs), (.int .i64 m.outputs), v53]) sz27 rfl rfl rfl rfl rfl rfl (one_cons rfl (one_cons rfl (one_cons (n2_one h74) one_nil))) ?_
      refine wo_nil ?_
      refine wg_freezeN (i := 2) rfl (nrep_of h74) fun R195 le196 h197 => ?_
      have h198 : VRep (tSl true (tSl true kEdge)) R195 v53 o70 := (sl_t h197 ht76)
      refine wg_ret ?_
      obtain rfl := Option.some.inj hd0
      refine body_end (D := []) (J := [box b5 [(.int .i64 m.inputs), (.int .i64 m.outputs), v53] 27, box b69 [(.int .i64 m.inputs), (.int .i64 m.outputs), v53] 27]) (rs := [.cell 4 27]) (vs := [(.agg #[(.int .i64 m.inputs), (.int .i64 m.outputs), v53])]) ((((le4.trans le17).trans le46).trans le72).trans le196) rfl rfl ⟨⟨_, rfl, fun w hh => run_cellA (i := 0) hh rfl rfl ag27 sz27 rfl rfl⟩, trivial⟩ ?_
      exact ⟨rfl, (⟨_, ⟨_, _, rfl, rfl, ⟨_, _, rfl, rfl, (rep_one rfl h198)⟩⟩, rfl⟩ : VRep (kMach true true) _ _ (⟨m.inputs, m.outputs, o70⟩ : Mach))⟩
end GV
end Go.Proofs.Ytncblcdhmcmkmaa
