/- The walks of the functions; printed. -/
import Derived.Test.YtncblcdhmcmkmaaShWe
import Derived.Test.YtncblcdhmcmkmaaShXa
import Derived.Test.YtncblcdhmcmkmaaShXb
import Derived.Test.YtncblcdhmcmkmaaShXc
import Derived.Test.YtncblcdhmcmkmaaShXd
import Derived.Test.YtncblcdhmcmkmaaShXe
import Derived.Test.YtncblcdhmcmkmaaRows
namespace Go.Proofs.Ytncblcdhmcmkmaa
namespace GV
open Go.IntWalk
set_option linter.unusedVariables false
set_option linter.unusedSimpArgs false
set_option maxRecDepth 100000
set_option maxHeartbeats 20000000
theorem ty54 {b0 : Bool} : TyOk Try.prog 54 (kWDat b0) := by
  obtain ⟨i, hi, hs⟩ : ∃ i, Try.prog.info? 54 = some i ∧ i.size = 1 := info_size (by kernel_rfl)
  exact tyOk_of Try.underlying54 hi rfl hs
theorem fd54_0 : FieldOk Try.prog 54 0 0 := by
  obtain ⟨i, hi, hs⟩ : ∃ i, Try.prog.info? 52 = some i ∧ i.size = 1 := info_size (by kernel_rfl)
  exact fieldOk_of Try.underlying54 rfl rfl hi (by rw [hs]; rfl)
theorem c_gauntletlaw01_W_Of {N : Nat} {R : RH} {x : WDat} {v_x : Value} (h_x : VRep (kWDat false) R v_x x) {inputs : Int} {r : (List Int)} (hd0 : gauntletlaw01_W_Of N x inputs = some r) : CallP Try.prog 22 #[v_x, (.int .i64 inputs)] R (fun v R' => VRep (tSl false (tInt .i64)) R' v r) := by
  refine callP_of_wg (args := [v_x, (.int .i64 inputs)]) Try.func22 rfl rfl fun A => ?_
  rw [gauntletlaw01_W_Of] at hd0
  refine wg_seq ?_
  refine wg_region ?_
  refine wo_boxR (T := (kWDat false)) rfl rfl h_x fun v1 R3 le4 h2 => ?_
  refine wo_v rfl (val_assign (v := (.slice none 0 0)) rfl) ?_
  refine wo_nil ?_
  refine wg_seq ?_
  refine wg_region ?_
  refine wo_v rfl (val_assign (v := (.slice none 0 0)) rfl) ?_
  refine wo_nil ?_
  replace hd0 := bd_some hd0; obtain ⟨o5, hd1, hd0⟩ := hd0
  refine wg_meet (γ := (List Int) × Value × Frag) true [6, 7, 8, 9, 10, 11, 12, 13, 14, 15, 18, 19, 20, 21, 22, 23, 24, 25, 26, 27, 28, 5, 16, 17] (fun g => [(5, g.2.1)]) (fun g => [g.2.2] ++ A) (fun g R => o5 = g.1 ∧ ORep (tInt .i64) R g.2.2 g.2.1 g.1 ∧ True) ?_ ?_
  ·
    refine wg_seq ?_
    refine wg_region ?_
    refine wo_v rfl (val_assign (v := (.int .i64 0)) rfl) ?_
    refine wo_nil ?_
    refine wg_block ?_
    refine wg_emp ?_
    refine wg_loopS (γ := Nat × (List Int) × Int × Value × Frag) true [7, 8, 9, 10, 11, 12, 13, 14, 15, 18, 19, 20, 21, 22, 23, 24, 25, 26, 27, 28, 5, 16, 17, 6] (fun g => [(5, g.2.2.2.1), (6, (.int .i64 g.2.2.1))]) (fun g => [g.2.2.2.2] ++ A) (fun g R => gauntletlaw01_W_Of_L1 N x inputs g.1 g.2.1 g.2.2.1 = some o5 ∧ ORep (tInt .i64) R g.2.2.2.2 g.2.2.2.1 g.2.1 ∧ True) (fun g => g.1) (N, ([] : List Int), 0, (.slice none 0 0), emp) ⟨rfl, rfl, trivial⟩ ⟨[], List.Perm.refl _⟩ ⟨hd1, (orep_emp (T := (tInt .i64))), trivial⟩ (fun _ => rfl) ?_
    clear hd1
    rintro ⟨F13, x14, x15, v18, f19⟩ j68 D69 R16 hD70 le17 ⟨hd1, h20, _⟩
    obtain rfl := hD70 rfl
    rcases F13 with _ | F13
    · exact none_elim hd1
    replace hd1 : gauntletlaw01_W_Of_L1 N x inputs (F13 + 1) x14 x15 = some o5 := hd1; rw [gauntletlaw01_W_Of_L1] at hd1
    refine wg_seq ?_
    refine wg_seq ?_
    refine wg_guarded 9 [] [phX (.int .i64 x15), phP (tSl false (tInt .u8)) x.syms, phR (tSl false (tInt .u8)) x.syms, phX (.int .i64 (↑x.syms.length : Int)), phX (.bool (decide (x15 < (↑x.syms.length : Int)))), phX (.bool (decide (x15 < (↑x.syms.length : Int)))), phG (true && ((decide (x15 < (↑x.syms.length : Int))) == true)) (phX (.int .i64 x15)), phG (true && ((decide (x15 < (↑x.syms.length : Int))) == true)) (phX (.bool (decide (x15 < 12)))), phX (.bool ((decide (x15 < (↑x.syms.length : Int))) && (decide (x15 < 12))))] (by kernel_rfl) (by kernel_rfl) (monoOk_of ⟨mono_x, mono_p, mono_r, mono_x, mono_x, mono_x, (mono_g mono_x), (mono_g mono_x), mono_x, trivial⟩) ⟨?_, ?_, ?_, ?_, ?_, ?_, ?_, ?_, ?_, trivial⟩ fun R22 le23 => ?_
    · intro l R0q hle ha hd
      have a6 : l 6 = (.int .i64 x15) := ha 6 rfl
      exact gstep_plain rfl rfl rfl (ph_val (val_move a6))
    · intro l R1q hle ha hd
      have a2 : l 2 = v1 := ha 2 rfl
      exact gstep_plain rfl rfl rfl (ph_fieldR fd54_0 pt_WDat0 a2 ((h2.mono le17).mono hle))
    · intro l R2q hle ha hd
      obtain ⟨d0, _⟩ := hd
      have f8 : phP (tSl false (tInt .u8)) x.syms (l 8) R2q := d0 rfl
      exact gstep_plain rfl rfl rfl (ph_loadR ty52 rfl f8)
    · intro l R3q hle ha hd
      obtain ⟨d0, _⟩ := hd
      have f9 : phR (tSl false (tInt .u8)) x.syms (l 9) R3q := d0 rfl
      exact gstep_plain rfl rfl rfl (ph_val (val_lenR rfl Try.underlying52 rfl (sl_s f9)))
    · intro l R4q hle ha hd
      obtain ⟨d0, d1, _⟩ := hd
      have f7 : l 7 = (.int .i64 x15) := d0 rfl
      have f10 : l 10 = (.int .i64 (↑x.syms.length : Int)) := d1 rfl
      exact gstep_plain rfl rfl rfl (ph_val (val_lss f7 f10))
    · intro l R5q hle ha hd
      obtain ⟨d0, _⟩ := hd
      have f11 : l 11 = (.bool (decide (x15 < (↑x.syms.length : Int)))) := d0 rfl
      exact gstep_plain rfl rfl rfl (ph_val (val_move f11))
    · intro l R6q hle ha hd
      obtain ⟨d0, _⟩ := hd
      have a6 : l 6 = (.int .i64 x15) := ha 6 rfl
      exact gstep_guard (Gj := true) (Bj := decide (x15 < (↑x.syms.length : Int))) rfl rfl rfl (gtrue (d0 rfl)) rfl (fun hG hB => ph_val (val_move a6))
    · intro l R7q hle ha hd
      obtain ⟨d0, d1, _⟩ := hd
      have f13g : phG (true && ((decide (x15 < (↑x.syms.length : Int))) == true)) (phX (.int .i64 x15)) (l 13) R7q := d0 rfl
      exact gstep_guard (Gj := true) (Bj := decide (x15 < (↑x.syms.length : Int))) rfl rfl rfl (gtrue (d1 rfl)) rfl (fun hG hB => ph_val (val_lss (show l 13 = (.int .i64 x15) from f13g.1 (gandT rfl hB)) rfl))
    · intro l R8q hle ha hd
      obtain ⟨d0, d1, _⟩ := hd
      have f12 : l 12 = (.bool (decide (x15 < (↑x.syms.length : Int)))) := d0 rfl
      have f14g : phG (true && ((decide (x15 < (↑x.syms.length : Int))) == true)) (phX (.bool (decide (x15 < 12)))) (l 14) R8q := d1 rfl
      exact gstep_plain rfl rfl rfl (ph_val (val_and f12 (fun hb => (show l 14 = (.bool (decide (x15 < 12))) from f14g.1 (gandT rfl hb))) rfl))
    intro v24 h25
    intro v26 h27
    intro v28 h29
    intro v30 h31
    intro v32 h33
    intro v34 h35
    intro v36 h37
    intro v38 h39
    intro v40 h41
    obtain rfl := Eq.symm h25
    obtain rfl := Eq.symm h31
    obtain rfl := Eq.symm h33
    obtain rfl := Eq.symm h35
    obtain rfl := Eq.symm h41
    refine wo_nil ?_
    refine wg_cond rfl (fun e42 => ?_) (fun e42 => ?_)
    · replace hd1 := sel_t e42 hd1; clear e42
      refine wg_skip ?_
      refine wg_seq ?_
      refine wg_block ?_
      refine wg_region ?_
      refine wo_v rfl (val_move (v := v18) rfl) ?_
      refine wo_fieldR rfl fd54_0 pt_WDat0 rfl (h2.mono (le17.trans le23)) fun v43 h44 => ?_
      refine wo_loadR rfl ty52 rfl h44 fun v45 h46 => ?_
      refine wo_v rfl (val_move (v := (.int .i64 x15)) rfl) ?_
      have g47 := (gd_some hd1).1; replace hd1 := (gd_some hd1).2
      refine wo_indexR (i := x15.toNat) rfl sl52 rfl (sl_s h46) (idx_nonneg rfl g47.1) (okI_lt g47) fun v48 h49 => ?_
      refine wo_loadR rfl ty5 rfl h49 fun v50 h51 => ?_
      obtain rfl := vrep_int.1 h51
      have g52 := (gd_some hd1).1; replace hd1 := (gd_some hd1).2
      refine wo_v rfl (val_conv64 Try.underlying5 Try.underlying3 rfl g52) ?_
      refine wo_v rfl (val_move (v := (.int .i64 inputs)) rfl) ?_
      have g53 := (gd_some hd1).1; replace hd1 := (gd_some hd1).2
      refine wo_v rfl (val_rem0 rfl rfl g53) ?_
      refine wo_lit (T := (tInt .i64)) (X := ([(ix x.syms x15) % inputs] : List Int)) (ps := [(0, (.int .i64 ((ix x.syms x15) % inputs)))]) (css := [[(.int .i64 ((ix x.syms x15) % inputs))]]) rfl Try.underlying36 zo3 rfl rfl (lit_reps ⟨rfl, trivial⟩) rfl rfl (by decide) fun v54 f55 cap56 h57 => ?_
      refine wo_freeze (i := 0) rfl h57 fun R59 le60 h61 => ?_
      have h62 : VRep (tSl true (tInt .i64)) R59 v54 ([(ix x.syms x15) % inputs] : List Int) := (sl_t h61 cap56)
      have g63 := (gd_some hd1).1; replace hd1 := (gd_some hd1).2
      refine wo_append (i := 0) (X := x14) (Y := ([(ix x.syms x15) % inputs] : List Int)) rfl Try.underlying36 zo3 rfl rfl rfl (h20.mono (le23.trans le60)) (sl_s (Sub.v (B := (tSl false (tInt .i64))) (sub_sl Sub.refl (fun _ => rfl)) h62)) g63.1 g63.2 fun v64 f65 h66 => ?_
      refine wo_v rfl (val_assign (v := v64) rfl) ?_
      refine wo_nil ?_
      refine wg_region ?_
      refine wo_v rfl (val_move (v := (.int .i64 x15)) rfl) ?_
      have g67 := (gd_some hd1).1; replace hd1 := (gd_some hd1).2
      refine wo_v rfl (val_add rfl rfl g67) ?_
      refine wo_v rfl (val_assign (v := (.int .i64 (x15 + 1))) rfl) ?_
      refine wo_nil ?_
      exact ⟨(fun _ => rfl), (le23.trans le60), (by repeat (first | exact off_self | refine off_upd rfl ?_ | refine off_setl rfl ?_ | refine off_mask_sub rfl ?_)), (F13, (x14 ++ ([(ix x.syms x15) % inputs] : List Int)), x15 + 1, v64, f65), Nat.lt_succ_self _, ⟨rfl, rfl, trivial⟩, ⟨[], List.Perm.refl _⟩, hd1, h66, trivial⟩
    · replace hd1 := sel_f e42 hd1; clear e42
      refine wg_exit ?_
      exact ⟨(fun _ => rfl), (le17.trans le23), (by repeat (first | exact off_self | refine off_upd rfl ?_ | refine off_setl rfl ?_ | refine off_mask_sub rfl ?_)), (x14, v18, f19), ⟨rfl, trivial⟩, ⟨[], List.Perm.refl _⟩, (Option.some.inj hd1).symm, (h20.mono le23), trivial⟩
  ·
    rintro ⟨o5, v8, f9⟩ j71 D72 R6 hD73 le7 ⟨rfl, h10, _⟩
    obtain rfl := hD73 rfl
    refine wg_seq ?_
    refine wg_region ?_
    refine wo_v rfl (val_move (v := v8) rfl) ?_
    refine wo_v rfl (val_assign (v := v8) rfl) ?_
    refine wo_nil ?_
    refine wg_freeze (i := 0) rfl h10 fun R74 le75 h76 => ?_
    have h77 : VRep (tSl false (tInt .i64)) R74 v8 o5 := (sl_f h76)
    refine wg_ret ?_
    obtain rfl := Option.some.inj hd0
    refine body_end (D := []) (J := []) (rs := [.tmp 4]) (vs := [v8]) ((le4.trans le7).trans le75) rfl rfl ⟨rfl, trivial⟩ ?_
    exact ⟨rfl, h77⟩
theorem en22 : Enters Try.prog 22 := enters_of Try.func22 rfl (by kernel_rfl)
theorem c_gauntletref04_Run {N : Nat} {R : RH} {m : Mach} {v_m : Value} (h_m : VRep (kMach false false) R v_m m) {s : Int} {w_ : (List Int)} {v_w_ : Value} (h_w_ : VRep (tSl false (tInt .i64)) R v_w_ w_) {r : (List Int)} (hd0 : gauntletref04_Run N m s w_ = some r) : CallP Try.prog 27 #[v_m, (.int .i64 s), v_w_] R (fun v R' => VRep (tSl false (tInt .i64)) R' v r) := by
  refine callP_of_wg (args := [v_m, (.int .i64 s), v_w_]) Try.func27 rfl rfl fun A => ?_
  rw [gauntletref04_Run] at hd0
  refine wg_seq ?_
  refine wg_region ?_
  refine wo_boxR (T := (kMach false false)) rfl rfl h_m fun v1 R3 le4 h2 => ?_
  refine wo_v rfl (val_assign (v := (.slice none 0 0)) rfl) ?_
  refine wo_nil ?_
  refine wg_seq ?_
  refine wg_region ?_
  refine wo_v rfl (val_assign (v := (.slice none 0 0)) rfl) ?_
  refine wo_nil ?_
  replace hd0 := bd_some hd0; obtain ⟨o5, hd1, hd0⟩ := hd0
  refine wg_meet (γ := (List Int) × Value × Frag) true [8, 10, 11, 12, 13, 16, 17, 18, 19, 20, 21, 22, 9, 23, 24, 25, 26, 27, 7, 28, 29, 1, 14, 15] (fun g => [(7, g.2.1)]) (fun g => [g.2.2] ++ A) (fun g R => o5 = g.1 ∧ ORep (tInt .i64) R g.2.2 g.2.1 g.1 ∧ True) ?_ ?_
  ·
    refine wg_seq ?_
    refine wg_region ?_
    refine wo_v rfl (val_assign (v := (.int .i64 0)) rfl) ?_
    refine wo_nil ?_
    refine wg_block ?_
    refine wg_emp ?_
    refine wg_loopS (γ := Nat × Int × (List Int) × Int × Value × Frag) true [10, 11, 12, 13, 16, 17, 18, 19, 20, 21, 22, 9, 23, 24, 25, 26, 27, 7, 28, 29, 1, 14, 15, 8] (fun g => [(1, (.int .i64 g.2.1)), (7, g.2.2.2.2.1), (8, (.int .i64 g.2.2.2.1))]) (fun g => [g.2.2.2.2.2] ++ A) (fun g R => gauntletref04_Run_L1 N m w_ g.1 g.2.1 g.2.2.1 g.2.2.2.1 = some o5 ∧ ORep (tInt .i64) R g.2.2.2.2.2 g.2.2.2.2.1 g.2.2.1 ∧ True) (fun g => g.1) (N, s, ([] : List Int), 0, (.slice none 0 0), emp) ⟨rfl, rfl, rfl, trivial⟩ ⟨[], List.Perm.refl _⟩ ⟨hd1, (orep_emp (T := (tInt .i64))), trivial⟩ (fun _ => rfl) ?_
    clear hd1
    rintro ⟨F13, x14, x15, x16, v19, f20⟩ j61 D62 R17 hD63 le18 ⟨hd1, h21, _⟩
    obtain rfl := hD63 rfl
    rcases F13 with _ | F13
    · exact none_elim hd1
    replace hd1 : gauntletref04_Run_L1 N m w_ (F13 + 1) x14 x15 x16 = some o5 := hd1; rw [gauntletref04_Run_L1] at hd1
    refine wg_seq ?_
    refine wg_seq ?_
    refine wg_region ?_
    refine wo_v rfl (val_move (v := (.int .i64 x16)) rfl) ?_
    refine wo_v rfl (val_move (v := v_w_) rfl) ?_
    refine wo_v rfl (val_lenR rfl Try.underlying36 rfl (sl_s (h_w_.mono (le4.trans le18)))) ?_
    refine wo_v rfl (val_lss rfl rfl) ?_
    refine wo_nil ?_
    refine wg_cond rfl (fun e23 => ?_) (fun e23 => ?_)
    · replace hd1 := sel_t e23 hd1; clear e23
      refine wg_skip ?_
      refine wg_seq ?_
      refine wg_block ?_
      refine wg_seq ?_
      have g24 := (gd_some hd1).1; replace hd1 := (gd_some hd1).2
      replace hd1 := bd_some hd1; obtain ⟨y25, c26, hd1⟩ := hd1
      refine wg_drawn 8 [⟨7, [.int .i64 0, .int .i64 0], 49⟩] [phR (kMach false false) m, phX (.int .i64 x14), phX v_w_, phX (.int .i64 x16), phP (tInt .i64) (ix w_ x16), phX (.int .i64 (ix w_ x16)), phX (enc_Edge y25), phB] mixed (by kernel_rfl) (monoOk_of ⟨mono_r, mono_x, mono_x, mono_x, mono_p, mono_x, mono_x, mono_b, trivial⟩) ⟨?_, ?_, ?_, ?_, ?_, ?_, ?_, ?_, trivial⟩ fun R27 le28 => ?_
      · intro l R0q hle ha hd
        have a3 : l 3 = v1 := ha 3 rfl
        exact gstep_plain rfl rfl rfl (ph_loadR ty27 a3 ((h2.mono le18).mono hle))
      · intro l R1q hle ha hd
        have a1 : l 1 = (.int .i64 x14) := ha 1 rfl
        exact gstep_plain rfl rfl rfl (ph_val (val_move a1))
      · intro l R2q hle ha hd
        have a2 : l 2 = v_w_ := ha 2 rfl
        exact gstep_plain rfl rfl rfl (ph_val (val_move a2))
      · intro l R3q hle ha hd
        have a8 : l 8 = (.int .i64 x16) := ha 8 rfl
        exact gstep_plain rfl rfl rfl (ph_val (val_move a8))
      · intro l R4q hle ha hd
        obtain ⟨d0, d1, _⟩ := hd
        have f18 : l 18 = v_w_ := d0 rfl
        have f19 : l 19 = (.int .i64 x16) := d1 rfl
        exact gstep_plain rfl rfl rfl (ph_indexR (i := x16.toNat) sl36 f18 (sl_s ((h_w_.mono (le4.trans le18)).mono hle)) (idx_nonneg f19 g24.1) (okI_lt g24))
      · intro l R5q hle ha hd
        obtain ⟨d0, _⟩ := hd
        have f20 : phP (tInt .i64) (ix w_ x16) (l 20) R5q := d0 rfl
        exact gstep_plain rfl rfl rfl (ph_exact (ph_loadR ty3 rfl f20) (fun _ _ h => vrep_int.1 h))
      · intro l R6q hle ha hd
        obtain ⟨d0, d1, d2, _⟩ := hd
        have f16 : phR (kMach false false) m (l 16) R6q := d0 rfl
        have f17 : l 17 = (.int .i64 x14) := d1 rfl
        have f21 : l 21 = (.int .i64 (ix w_ x16)) := d2 rfl
        exact gstep_plain rfl rfl rfl (ph_callP (vs := [(l 16), (.int .i64 x14), (.int .i64 (ix w_ x16))]) en39 (by simp only [List.map, ev, f17, f21] <;> rfl) (c_gauntletref04_Next f16 c26) (fun _ _ h => h))
      · intro l R7q hle ha hd
        exact gstep_new rfl rfl rfl rfl za49
      intro v29 h30
      intro v31 h32
      intro v33 h34
      intro v35 h36
      intro v37 h38
      intro v39 h40
      intro v41 h42
      intro v43 h44
      obtain rfl := Eq.symm h32
      obtain rfl := Eq.symm h34
      obtain rfl := Eq.symm h36
      obtain rfl := Eq.symm h40
      obtain rfl := Eq.symm h42
      obtain ⟨b45, rfl⟩ := h44
      refine wo_store (i := 0) (vs := [(.int .i64 y25.to), (.int .i64 y25.out)]) sz49 rfl rfl rfl rfl rfl rfl (one_cons rfl (one_cons rfl one_nil)) ?_
      refine wo_nil ?_
      refine wg_seq ?_
      refine wg_region ?_
      refine wo_v rfl (val_move (v := v19) rfl) ?_
      refine wo_v rfl (val_fieldB fd49_1 rfl) ?_
      refine wo_v rfl (val_loadB (i := 0) ag3 rfl rfl rfl) ?_
      refine wo_lit (T := (tInt .i64)) (X := ([y25.out] : List Int)) (ps := [(0, (.int .i64 y25.out))]) (css := [[(.int .i64 y25.out)]]) rfl Try.underlying36 zo3 rfl rfl (lit_reps ⟨rfl, trivial⟩) rfl rfl (by decide) fun v47 f48 cap49 h50 => ?_
      refine wo_freeze (i := 0) rfl h50 fun R52 le53 h54 => ?_
      have h55 : VRep (tSl true (tInt .i64)) R52 v47 ([y25.out] : List Int) := (sl_t h54 cap49)
      have g56 := (gd_some hd1).1; replace hd1 := (gd_some hd1).2
      refine wo_append (i := 1) (X := x15) (Y := ([y25.out] : List Int)) rfl Try.underlying36 zo3 rfl rfl rfl (h21.mono (le28.trans le53)) (sl_s (Sub.v (B := (tSl false (tInt .i64))) (sub_sl Sub.refl (fun _ => rfl)) h55)) g56.1 g56.2 fun v57 f58 h59 => ?_
      refine wo_v rfl (val_assign (v := v57) rfl) ?_
      refine wo_nil ?_
      refine wg_region ?_
      refine wo_v rfl (val_fieldB fd49_0 rfl) ?_
      refine wo_v rfl (val_loadB (i := 0) ag3 rfl rfl rfl) ?_
      refine wo_v rfl (val_assign (v := (.int .i64 y25.to)) rfl) ?_
      refine wo_nil ?_
      refine wg_region ?_
      refine wo_v rfl (val_move (v := (.int .i64 x16)) rfl) ?_
      have g60 := (gd_some hd1).1; replace hd1 := (gd_some hd1).2
      refine wo_v rfl (val_add rfl rfl g60) ?_
      refine wo_v rfl (val_assign (v := (.int .i64 (x16 + 1))) rfl) ?_
      refine wo_nil ?_
      exact ⟨(fun _ => rfl), (le28.trans le53), (by repeat (first | exact off_self | refine off_upd rfl ?_ | refine off_setl rfl ?_ | refine off_mask_sub rfl ?_)), (F13, y25.to, (x15 ++ ([y25.out] : List Int)), x16 + 1, v57, f58), Nat.lt_succ_self _, ⟨rfl, rfl, rfl, trivial⟩, ⟨[box b45 [(.int .i64 y25.to), (.int .i64 y25.out)] 49], (List.Perm.refl _)⟩, hd1, h59, trivial⟩
    · replace hd1 := sel_f e23 hd1; clear e23
      refine wg_exit ?_
      exact ⟨(fun _ => rfl), le18, (by repeat (first | exact off_self | refine off_upd rfl ?_ | refine off_setl rfl ?_ | refine off_mask_sub rfl ?_)), (x15, v19, f20), ⟨rfl, trivial⟩, ⟨[], List.Perm.refl _⟩, (Option.some.inj hd1).symm, h21, trivial⟩
  ·
    rintro ⟨o5, v8, f9⟩ j64 D65 R6 hD66 le7 ⟨rfl, h10, _⟩
    obtain rfl := hD66 rfl
    refine wg_seq ?_
    refine wg_region ?_
    refine wo_v rfl (val_move (v := v8) rfl) ?_
    refine wo_v rfl (val_assign (v := v8) rfl) ?_
    refine wo_nil ?_
    refine wg_freeze (i := 0) rfl h10 fun R67 le68 h69 => ?_
    have h70 : VRep (tSl false (tInt .i64)) R67 v8 o5 := (sl_f h69)
    refine wg_ret ?_
    obtain rfl := Option.some.inj hd0
    refine body_end (D := []) (J := []) (rs := [.tmp 6]) (vs := [v8]) ((le4.trans le7).trans le68) rfl rfl ⟨rfl, trivial⟩ ?_
    exact ⟨rfl, h70⟩
theorem en27 : Enters Try.prog 27 := enters_of Try.func27 rfl (by kernel_rfl)
end GV
end Go.Proofs.Ytncblcdhmcmkmaa
