/- The walks of the functions; printed. -/
import Derived.Test.YtncblcdhmcmkmaaShWe
import Derived.Test.YtncblcdhmcmkmaaRows
namespace Go.Proofs.Ytncblcdhmcmkmaa
namespace GV
open Go.IntWalk
set_option linter.unusedVariables false
set_option linter.unusedSimpArgs false
set_option maxRecDepth 100000
set_option maxHeartbeats 20000000
theorem c_gauntletref04_Check {N : Nat} {R : RH} {m : Mach} {v_m : Value} (h_m : VRep (kMach false false) R v_m m) {r : Int} (hd0 : gauntletref04_Check N m = some r) : CallP Try.prog 33 #[v_m] R (fun v R' => v = (.int .i64 r)) := by
  refine callP_of_wg (args := [v_m]) Try.func33 rfl rfl fun A => ?_
  rw [gauntletref04_Check] at hd0
  refine wg_seq ?_
  refine wg_region ?_
  refine wo_boxR (T := (kMach false false)) rfl rfl h_m fun v1 R3 le4 h2 => ?_
  refine wo_v rfl (val_assign (v := (.int .i64 0)) rfl) ?_
  refine wo_nil ?_
  refine wg_seq ?_
  refine wg_seq ?_
  refine wg_guarded 14 [] [phP (tInt .i64) m.inputs, phX (.int .i64 m.inputs), phX (.bool (decide (16 < m.inputs))), phX (.bool (decide (16 < m.inputs))), phG (true && ((decide (16 < m.inputs)) == false)) (phP (tInt .i64) m.outputs), phG (true && ((decide (16 < m.inputs)) == false)) (phX (.int .i64 m.outputs)), phG (true && ((decide (16 < m.inputs)) == false)) (phX (.bool (decide (16 < m.outputs)))), phX (.bool ((decide (16 < m.inputs)) || (decide (16 < m.outputs)))), phX (.bool ((decide (16 < m.inputs)) || (decide (16 < m.outputs)))), phG (true && (((decide (16 < m.inputs)) || (decide (16 < m.outputs))) == false)) (phP (tSl false (tSl false kEdge)) m.rows), phG (true && (((decide (16 < m.inputs)) || (decide (16 < m.outputs))) == false)) (phR (tSl false (tSl false kEdge)) m.rows), phG (true && (((decide (16 < m.inputs)) || (decide (16 < m.outputs))) == false)) (phX (.int .i64 (↑m.rows.length : Int))), phG (true && (((decide (16 < m.inputs)) || (decide (16 < m.outputs))) == false)) (phX (.bool (decide (64 < (↑m.rows.length : Int))))), phX (.bool (((decide (16 < m.inputs)) || (decide (16 < m.outputs))) || (decide (64 < (↑m.rows.length : Int)))))] (by kernel_rfl) (by kernel_rfl) (monoOk_of ⟨mono_p, mono_x, mono_x, mono_x, (mono_g mono_p), (mono_g mono_x), (mono_g mono_x), mono_x, mono_x, (mono_g mono_p), (mono_g mono_r), (mono_g mono_x), (mono_g mono_x), mono_x, trivial⟩) ⟨?_, ?_, ?_, ?_, ?_, ?_, ?_, ?_, ?_, ?_, ?_, ?_, ?_, ?_, trivial⟩ fun R5 le6 => ?_
  · intro l R0q hle ha hd
    have a1 : l 1 = v1 := ha 1 rfl
    exact gstep_plain rfl rfl rfl (ph_fieldR fd27_0 pt_Mach0 a1 (h2.mono hle))
  · intro l R1q hle ha hd
    obtain ⟨d0, _⟩ := hd
    have f6 : phP (tInt .i64) m.inputs (l 6) R1q := d0 rfl
    exact gstep_plain rfl rfl rfl (ph_exact (ph_loadR ty3 rfl f6) (fun _ _ h => vrep_int.1 h))
  · intro l R2q hle ha hd
    obtain ⟨d0, _⟩ := hd
    have f7 : l 7 = (.int .i64 m.inputs) := d0 rfl
    exact gstep_plain rfl rfl rfl (ph_val (val_gtr f7 rfl))
  · intro l R3q hle ha hd
    obtain ⟨d0, _⟩ := hd
    have f8 : l 8 = (.bool (decide (16 < m.inputs))) := d0 rfl
    exact gstep_plain rfl rfl rfl (ph_val (val_move f8))
  · intro l R4q hle ha hd
    obtain ⟨d0, _⟩ := hd
    have a1 : l 1 = v1 := ha 1 rfl
    exact gstep_guard (Gj := true) (Bj := decide (16 < m.inputs)) rfl rfl rfl (gtrue (d0 rfl)) rfl (fun hG hB => ph_fieldR fd27_1 pt_Mach1 a1 (h2.mono hle))
  · intro l R5q hle ha hd
    obtain ⟨d0, d1, _⟩ := hd
    have f10g : phG (true && ((decide (16 < m.inputs)) == false)) (phP (tInt .i64) m.outputs) (l 10) R5q := d0 rfl
    exact gstep_guard (Gj := true) (Bj := decide (16 < m.inputs)) rfl rfl rfl (gtrue (d1 rfl)) rfl (fun hG hB => ph_exact (ph_loadR ty3 rfl (f10g.1 (gandT rfl hB))) (fun _ _ h => vrep_int.1 h))
  · intro l R6q hle ha hd
    obtain ⟨d0, d1, _⟩ := hd
    have f11g : phG (true && ((decide (16 < m.inputs)) == false)) (phX (.int .i64 m.outputs)) (l 11) R6q := d0 rfl
    exact gstep_guard (Gj := true) (Bj := decide (16 < m.inputs)) rfl rfl rfl (gtrue (d1 rfl)) rfl (fun hG hB => ph_val (val_gtr (show l 11 = (.int .i64 m.outputs) from f11g.1 (gandT rfl hB)) rfl))
  · intro l R7q hle ha hd
    obtain ⟨d0, d1, _⟩ := hd
    have f9 : l 9 = (.bool (decide (16 < m.inputs))) := d0 rfl
    have f12g : phG (true && ((decide (16 < m.inputs)) == false)) (phX (.bool (decide (16 < m.outputs)))) (l 12) R7q := d1 rfl
    exact gstep_plain rfl rfl rfl (ph_val (val_or f9 rfl (fun hb => (show l 12 = (.bool (decide (16 < m.outputs))) from f12g.1 (gandT rfl hb)))))
  · intro l R8q hle ha hd
    obtain ⟨d0, d1, _⟩ := hd
    have f13 : l 13 = (.bool ((decide (16 < m.inputs)) || (decide (16 < m.outputs)))) := d0 rfl
    exact gstep_plain rfl rfl rfl (ph_val (val_move f13))
  · intro l R9q hle ha hd
    obtain ⟨d0, _⟩ := hd
    have a1 : l 1 = v1 := ha 1 rfl
    exact gstep_guard (Gj := true) (Bj := (decide (16 < m.inputs)) || (decide (16 < m.outputs))) rfl rfl rfl (gtrue (d0 rfl)) rfl (fun hG hB => ph_fieldR fd27_2 pt_Mach2 a1 (h2.mono hle))
  · intro l R10q hle ha hd
    obtain ⟨d0, d1, _⟩ := hd
    have f15g : phG (true && (((decide (16 < m.inputs)) || (decide (16 < m.outputs))) == false)) (phP (tSl false (tSl false kEdge)) m.rows) (l 15) R10q := d0 rfl
    exact gstep_guard (Gj := true) (Bj := (decide (16 < m.inputs)) || (decide (16 < m.outputs))) rfl rfl rfl (gtrue (d1 rfl)) rfl (fun hG hB => ph_loadR ty25 rfl (f15g.1 (gandT rfl hB)))
  · intro l R11q hle ha hd
    obtain ⟨d0, d1, _⟩ := hd
    have f16g : phG (true && (((decide (16 < m.inputs)) || (decide (16 < m.outputs))) == false)) (phR (tSl false (tSl false kEdge)) m.rows) (l 16) R11q := d0 rfl
    exact gstep_guard (Gj := true) (Bj := (decide (16 < m.inputs)) || (decide (16 < m.outputs))) rfl rfl rfl (gtrue (d1 rfl)) rfl (fun hG hB => ph_val (val_lenR rfl Try.underlying25 rfl (sl_s (f16g.1 (gandT rfl hB)))))
  · intro l R12q hle ha hd
    obtain ⟨d0, d1, _⟩ := hd
    have f17g : phG (true && (((decide (16 < m.inputs)) || (decide (16 < m.outputs))) == false)) (phX (.int .i64 (↑m.rows.length : Int))) (l 17) R12q := d0 rfl
    exact gstep_guard (Gj := true) (Bj := (decide (16 < m.inputs)) || (decide (16 < m.outputs))) rfl rfl rfl (gtrue (d1 rfl)) rfl (fun hG hB => ph_val (val_gtr (show l 17 = (.int .i64 (↑m.rows.length : Int)) from f17g.1 (gandT rfl hB)) rfl))
  · intro l R13q hle ha hd
    obtain ⟨d0, d1, _⟩ := hd
    have f14 : l 14 = (.bool ((decide (16 < m.inputs)) || (decide (16 < m.outputs)))) := d0 rfl
    have f18g : phG (true && (((decide (16 < m.inputs)) || (decide (16 < m.outputs))) == false)) (phX (.bool (decide (64 < (↑m.rows.length : Int))))) (l 18) R13q := d1 rfl
    exact gstep_plain rfl rfl rfl (ph_val (val_or f14 rfl (fun hb => (show l 18 = (.bool (decide (64 < (↑m.rows.length : Int)))) from f18g.1 (gandT rfl hb)))))
  intro v7 h8
  intro v9 h10
  intro v11 h12
  intro v13 h14
  intro v15 h16
  intro v17 h18
  intro v19 h20
  intro v21 h22
  intro v23 h24
  intro v25 h26
  intro v27 h28
  intro v29 h30
  intro v31 h32
  intro v33 h34
  obtain rfl := Eq.symm h10
  obtain rfl := Eq.symm h12
  obtain rfl := Eq.symm h14
  obtain rfl := Eq.symm h22
  obtain rfl := Eq.symm h24
  obtain rfl := Eq.symm h34
  refine wo_nil ?_
  refine wg_cond rfl (fun e35 => ?_) (fun e35 => ?_)
  · replace hd0 := sel_t e35 hd0; clear e35
    refine wg_seq ?_
    refine wg_region ?_
    refine wo_v rfl (val_assign (v := (.int .i64 3)) rfl) ?_
    refine wo_nil ?_
    refine wg_ret ?_
    obtain rfl := Option.some.inj hd0
    refine body_end (D := []) (J := []) (rs := [.tmp 2]) (vs := [(.int .i64 3)]) (le4.trans le6) rfl rfl ⟨rfl, trivial⟩ ?_
    exact ⟨rfl, rfl⟩
  · replace hd0 := sel_f e35 hd0; clear e35
    refine wg_skip ?_
    refine wg_seq ?_
    refine wg_seq ?_
    refine wg_guarded 14 [] [phP (tInt .i64) m.inputs, phX (.int .i64 m.inputs), phX (.bool (decide (m.inputs < 1))), phX (.bool (decide (m.inputs < 1))), phG (true && ((decide (m.inputs < 1)) == false)) (phP (tInt .i64) m.outputs), phG (true && ((decide (m.inputs < 1)) == false)) (phX (.int .i64 m.outputs)), phG (true && ((decide (m.inputs < 1)) == false)) (phX (.bool (decide (m.outputs < 1)))), phX (.bool ((decide (m.inputs < 1)) || (decide (m.outputs < 1)))), phX (.bool ((decide (m.inputs < 1)) || (decide (m.outputs < 1)))), phG (true && (((decide (m.inputs < 1)) || (decide (m.outputs < 1))) == false)) (phP (tSl false (tSl false kEdge)) m.rows), phG (true && (((decide (m.inputs < 1)) || (decide (m.outputs < 1))) == false)) (phR (tSl false (tSl false kEdge)) m.rows), phG (true && (((decide (m.inputs < 1)) || (decide (m.outputs < 1))) == false)) (phX (.int .i64 (↑m.rows.length : Int))), phG (true && (((decide (m.inputs < 1)) || (decide (m.outputs < 1))) == false)) (phX (.bool (decide ((↑m.rows.length : Int) = 0)))), phX (.bool (((decide (m.inputs < 1)) || (decide (m.outputs < 1))) || (decide ((↑m.rows.length : Int) = 0))))] (by kernel_rfl) (by kernel_rfl) (monoOk_of ⟨mono_p, mono_x, mono_x, mono_x, (mono_g mono_p), (mono_g mono_x), (mono_g mono_x), mono_x, mono_x, (mono_g mono_p), (mono_g mono_r), (mono_g mono_x), (mono_g mono_x), mono_x, trivial⟩) ⟨?_, ?_, ?_, ?_, ?_, ?_, ?_, ?_, ?_, ?_, ?_, ?_, ?_, ?_, trivial⟩ fun R36 le37 => ?_
    · intro l R0q hle ha hd
      have a1 : l 1 = v1 := ha 1 rfl
      exact gstep_plain rfl rfl rfl (ph_fieldR fd27_0 pt_Mach0 a1 ((h2.mono le6).mono hle))
    · intro l R1q hle ha hd
      obtain ⟨d0, _⟩ := hd
      have f20 : phP (tInt .i64) m.inputs (l 20) R1q := d0 rfl
      exact gstep_plain rfl rfl rfl (ph_exact (ph_loadR ty3 rfl f20) (fun _ _ h => vrep_int.1 h))
    · intro l R2q hle ha hd
      obtain ⟨d0, _⟩ := hd
      have f21 : l 21 = (.int .i64 m.inputs) := d0 rfl
      exact gstep_plain rfl rfl rfl (ph_val (val_lss f21 rfl))
    · intro l R3q hle ha hd
      obtain ⟨d0, _⟩ := hd
      have f22 : l 22 = (.bool (decide (m.inputs < 1))) := d0 rfl
      exact gstep_plain rfl rfl rfl (ph_val (val_move f22))
    · intro l R4q hle ha hd
      obtain ⟨d0, _⟩ := hd
      have a1 : l 1 = v1 := ha 1 rfl
      exact gstep_guard (Gj := true) (Bj := decide (m.inputs < 1)) rfl rfl rfl (gtrue (d0 rfl)) rfl (fun hG hB => ph_fieldR fd27_1 pt_Mach1 a1 ((h2.mono le6).mono hle))
    · intro l R5q hle ha hd
      obtain ⟨d0, d1, _⟩ := hd
      have f24g : phG (true && ((decide (m.inputs < 1)) == false)) (phP (tInt .i64) m.outputs) (l 24) R5q := d0 rfl
      exact gstep_guard (Gj := true) (Bj := decide (m.inputs < 1)) rfl rfl rfl (gtrue (d1 rfl)) rfl (fun hG hB => ph_exact (ph_loadR ty3 rfl (f24g.1 (gandT rfl hB))) (fun _ _ h => vrep_int.1 h))
    · intro l R6q hle ha hd
      obtain ⟨d0, d1, _⟩ := hd
      have f25g : phG (true && ((decide (m.inputs < 1)) == false)) (phX (.int .i64 m.outputs)) (l 25) R6q := d0 rfl
      exact gstep_guard (Gj := true) (Bj := decide (m.inputs < 1)) rfl rfl rfl (gtrue (d1 rfl)) rfl (fun hG hB => ph_val (val_lss (show l 25 = (.int .i64 m.outputs) from f25g.1 (gandT rfl hB)) rfl))
    · intro l R7q hle ha hd
      obtain ⟨d0, d1, _⟩ := hd
      have f23 : l 23 = (.bool (decide (m.inputs < 1))) := d0 rfl
      have f26g : phG (true && ((decide (m.inputs < 1)) == false)) (phX (.bool (decide (m.outputs < 1)))) (l 26) R7q := d1 rfl
      exact gstep_plain rfl rfl rfl (ph_val (val_or f23 rfl (fun hb => (show l 26 = (.bool (decide (m.outputs < 1))) from f26g.1 (gandT rfl hb)))))
    · intro l R8q hle ha hd
      obtain ⟨d0, d1, _⟩ := hd
      have f27 : l 27 = (.bool ((decide (m.inputs < 1)) || (decide (m.outputs < 1)))) := d0 rfl
      exact gstep_plain rfl rfl rfl (ph_val (val_move f27))
    · intro l R9q hle ha hd
      obtain ⟨d0, _⟩ := hd
      have a1 : l 1 = v1 := ha 1 rfl
      exact gstep_guard (Gj := true) (Bj := (decide (m.inputs < 1)) || (decide (m.outputs < 1))) rfl rfl rfl (gtrue (d0 rfl)) rfl (fun hG hB => ph_fieldR fd27_2 pt_Mach2 a1 ((h2.mono le6).mono hle))
    · intro l R10q hle ha hd
      obtain ⟨d0, d1, _⟩ := hd
      have f29g : phG (true && (((decide (m.inputs < 1)) || (decide (m.outputs < 1))) == false)) (phP (tSl false (tSl false kEdge)) m.rows) (l 29) R10q := d0 rfl
      exact gstep_guard (Gj := true) (Bj := (decide (m.inputs < 1)) || (decide (m.outputs < 1))) rfl rfl rfl (gtrue (d1 rfl)) rfl (fun hG hB => ph_loadR ty25 rfl (f29g.1 (gandT rfl hB)))
    · intro l R11q hle ha hd
      obtain ⟨d0, d1, _⟩ := hd
      have f30g : phG (true && (((decide (m.inputs < 1)) || (decide (m.outputs < 1))) == false)) (phR (tSl false (tSl false kEdge)) m.rows) (l 30) R11q := d0 rfl
      exact gstep_guard (Gj := true) (Bj := (decide (m.inputs < 1)) || (decide (m.outputs < 1))) rfl rfl rfl (gtrue (d1 rfl)) rfl (fun hG hB => ph_val (val_lenR rfl Try.underlying25 rfl (sl_s (f30g.1 (gandT rfl hB)))))
    · intro l R12q hle ha hd
      obtain ⟨d0, d1, _⟩ := hd
      have f31g : phG (true && (((decide (m.inputs < 1)) || (decide (m.outputs < 1))) == false)) (phX (.int .i64 (↑m.rows.length : Int))) (l 31) R12q := d0 rfl
      exact gstep_guard (Gj := true) (Bj := (decide (m.inputs < 1)) || (decide (m.outputs < 1))) rfl rfl rfl (gtrue (d1 rfl)) rfl (fun hG hB => ph_val (val_eql (show l 31 = (.int .i64 (↑m.rows.length : Int)) from f31g.1 (gandT rfl hB)) rfl))
    · intro l R13q hle ha hd
      obtain ⟨d0, d1, _⟩ := hd
      have f28 : l 28 = (.bool ((decide (m.inputs < 1)) || (decide (m.outputs < 1)))) := d0 rfl
      have f32g : phG (true && (((decide (m.inputs < 1)) || (decide (m.outputs < 1))) == false)) (phX (.bool (decide ((↑m.rows.length : Int) = 0)))) (l 32) R13q := d1 rfl
      exact gstep_plain rfl rfl rfl (ph_val (val_or f28 rfl (fun hb => (show l 32 = (.bool (decide ((↑m.rows.length : Int) = 0))) from f32g.1 (gandT rfl hb)))))
    intro v38 h39
    intro v40 h41
    intro v42 h43
    intro v44 h45
    intro v46 h47
    intro v48 h49
    intro v50 h51
    intro v52 h53
    intro v54 h55
    intro v56 h57
    intro v58 h59
    intro v60 h61
    intro v62 h63
    intro v64 h65
    obtain rfl := Eq.symm h41
    obtain rfl := Eq.symm h43
    obtain rfl := Eq.symm h45
    obtain rfl := Eq.symm h53
    obtain rfl := Eq.symm h55
    obtain rfl := Eq.symm h65
    refine wo_nil ?_
    refine wg_cond rfl (fun e66 => ?_) (fun e66 => ?_)
    · replace hd0 := sel_t e66 hd0; clear e66
      refine wg_seq ?_
      refine wg_region ?_
      refine wo_v rfl (val_assign (v := (.int .i64 1)) rfl) ?_
      refine wo_nil ?_
      refine wg_ret ?_
      obtain rfl := Option.some.inj hd0
      refine body_end (D := []) (J := []) (rs := [.tmp 2]) (vs := [(.int .i64 1)]) ((le4.trans le6).trans le37) rfl rfl ⟨rfl, trivial⟩ ?_
      exact ⟨rfl, rfl⟩
    · replace hd0 := sel_f e66 hd0; clear e66
      refine wg_skip ?_
      replace hd0 := bd_some hd0; obtain ⟨q68, hd1, hd0⟩ := hd0
      refine wg_meet (γ := Unit) true [3, 34, 35, 36, 37, 38, 41, 42, 43, 44, 45, 46, 47, 48, 49, 2, 4, 50, 51, 52, 53, 56, 57, 58, 59, 60, 61, 62, 63, 5, 64, 65, 66, 67, 68, 69, 70, 71, 72, 73, 74, 75, 76, 77, 78, 79, 80, 81, 82, 83, 84, 85, 86, 87, 88, 89, 90, 91, 92, 93, 94, 54, 55, 39, 40] (fun g => []) (fun g => [] ++ A) (fun g R => q68 = Ex.go g ∧ True) ?_ ?_
      ·
        refine wg_seq ?_
        refine wg_region ?_
        refine wo_v rfl (val_assign (v := (.int .i64 0)) rfl) ?_
        refine wo_nil ?_
        refine wg_block ?_
        refine wg_loopS (γ := Nat × Int) true [34, 35, 36, 37, 38, 41, 42, 43, 44, 45, 46, 47, 48, 49, 2, 4, 50, 51, 52, 53, 56, 57, 58, 59, 60, 61, 62, 63, 5, 64, 65, 66, 67, 68, 69, 70, 71, 72, 73, 74, 75, 76, 77, 78, 79, 80, 81, 82, 83, 84, 85, 86, 87, 88, 89, 90, 91, 92, 93, 94, 54, 55, 39, 40, 3] (fun g => [(3, (.int .i64 g.2))]) (fun g => [] ++ A) (fun g R => gauntletref04_Check_L1 N m g.1 g.2 = some q68 ∧ True) (fun g => g.1) (N, 0) ⟨rfl, trivial⟩ ⟨[], List.Perm.refl _⟩ ⟨hd1, trivial⟩ (fun _ => rfl) ?_
        clear hd1
        rintro ⟨F71, x72⟩ j214 D215 R73 hD216 le74 ⟨hd1, _⟩
        obtain rfl := hD216 rfl
        rcases F71 with _ | F71
        · exact none_elim hd1
        replace hd1 : gauntletref04_Check_L1 N m (F71 + 1) x72 = some q68 := hd1; rw [gauntletref04_Check_L1] at hd1
        refine wg_seq ?_
        refine wg_seq ?_
        refine wg_region ?_
        refine wo_v rfl (val_move (v := (.int .i64 x72)) rfl) ?_
        refine wo_fieldR rfl fd27_2 pt_Mach2 rfl (h2.mono ((le6.trans le37).trans le74)) fun v75 h76 => ?_
        refine wo_loadR rfl ty25 rfl h76 fun v77 h78 => ?_
        refine wo_v rfl (val_lenR rfl Try.underlying25 rfl (sl_s h78)) ?_
        refine wo_v rfl (val_lss rfl rfl) ?_
        refine wo_nil ?_
        refine wg_cond rfl (fun e79 => ?_) (fun e79 => ?_)
        · replace hd1 := sel_t e79 hd1; clear e79
          refine wg_skip ?_
          replace hd1 := bd_some hd1; obtain ⟨q81, hd2, hd1⟩ := hd1
          refine wg_meet (γ := Unit) true [41, 42, 43, 44, 45, 46, 47, 48, 49, 2, 4, 50, 51, 52, 53, 56, 57, 58, 59, 60, 61, 62, 63, 5, 64, 65, 66, 67, 68, 69, 70, 71, 72, 73, 74, 75, 76, 77, 78, 79, 80, 81, 82, 83, 84, 85, 86, 87, 88, 89, 90, 91, 92, 93, 94, 54, 55] (fun g => []) (fun g => [] ++ A) (fun g R => q81 = Ex.go g ∧ True) ?_ ?_
          ·
            refine wg_block ?_
            refine wg_seq ?_
            refine wg_seq ?_
            have g84 := (gd_some hd2).1; replace hd2 := (gd_some hd2).2
            refine wg_drawn 9 [] [phP (tSl false (tSl false kEdge)) m.rows, phR (tSl false (tSl false kEdge)) m.rows, phX (.int .i64 x72), phP (tSl false kEdge) (ix m.rows x72), phR (tSl false kEdge) (ix m.rows x72), phX (.int .i64 (↑(ix m.rows x72).length : Int)), phP (tInt .i64) m.inputs, phX (.int .i64 m.inputs), phX (.bool (decide ((↑(ix m.rows x72).length : Int) ≠ m.inputs)))] mixed (by kernel_rfl) (monoOk_of ⟨mono_p, mono_r, mono_x, mono_p, mono_r, mono_x, mono_p, mono_x, mono_x, trivial⟩) ⟨?_, ?_, ?_, ?_, ?_, ?_, ?_, ?_, ?_, trivial⟩ fun R85 le86 => ?_
            · intro l R0q hle ha hd
              have a1 : l 1 = v1 := ha 1 rfl
              exact gstep_plain rfl rfl rfl (ph_fieldR fd27_2 pt_Mach2 a1 ((h2.mono ((le6.trans le37).trans le74)).mono hle))
            · intro l R1q hle ha hd
              obtain ⟨d0, _⟩ := hd
              have f41 : phP (tSl false (tSl false kEdge)) m.rows (l 41) R1q := d0 rfl
              exact gstep_plain rfl rfl rfl (ph_loadR ty25 rfl f41)
            · intro l R2q hle ha hd
              have a3 : l 3 = (.int .i64 x72) := ha 3 rfl
              exact gstep_plain rfl rfl rfl (ph_val (val_move a3))
            · intro l R3q hle ha hd
              obtain ⟨d0, d1, _⟩ := hd
              have f42 : phR (tSl false (tSl false kEdge)) m.rows (l 42) R3q := d0 rfl
              have f43 : l 43 = (.int .i64 x72) := d1 rfl
              exact gstep_plain rfl rfl rfl (ph_indexR (i := x72.toNat) sl25 rfl (sl_s f42) (idx_nonneg f43 g84.1) (okI_lt g84))
            · intro l R4q hle ha hd
              obtain ⟨d0, _⟩ := hd
              have f44 : phP (tSl false kEdge) (ix m.rows x72) (l 44) R4q := d0 rfl
              exact gstep_plain rfl rfl rfl (ph_loadR ty50 rfl f44)
            · intro l R5q hle ha hd
              obtain ⟨d0, _⟩ := hd
              have f45 : phR (tSl false kEdge) (ix m.rows x72) (l 45) R5q := d0 rfl
              exact gstep_plain rfl rfl rfl (ph_val (val_lenR rfl Try.underlying50 rfl (sl_s f45)))
            · intro l R6q hle ha hd
              have a1 : l 1 = v1 := ha 1 rfl
              exact gstep_plain rfl rfl rfl (ph_fieldR fd27_0 pt_Mach0 a1 ((h2.mono ((le6.trans le37).trans le74)).mono hle))
            · intro l R7q hle ha hd
              obtain ⟨d0, _⟩ := hd
              have f47 : phP (tInt .i64) m.inputs (l 47) R7q := d0 rfl
              exact gstep_plain rfl rfl rfl (ph_exact (ph_loadR ty3 rfl f47) (fun _ _ h => vrep_int.1 h))
            · intro l R8q hle ha hd
              obtain ⟨d0, d1, _⟩ := hd
              have f46 : l 46 = (.int .i64 (↑(ix m.rows x72).length : Int)) := d0 rfl
              have f48 : l 48 = (.int .i64 m.inputs) := d1 rfl
              exact gstep_plain rfl rfl rfl (ph_val (val_neq f46 f48))
            intro v87 h88
            intro v89 h90
            intro v91 h92
            intro v93 h94
            intro v95 h96
            intro v97 h98
            intro v99 h100
            intro v101 h102
            intro v103 h104
            obtain rfl := Eq.symm h92
            obtain rfl := Eq.symm h98
            obtain rfl := Eq.symm h102
            obtain rfl := Eq.symm h104
            refine wo_nil ?_
            refine wg_cond rfl (fun e105 => ?_) (fun e105 => ?_)
            · replace hd2 := sel_t e105 hd2; clear e105
              refine wg_seq ?_
              refine wg_region ?_
              refine wo_v rfl (val_assign (v := (.int .i64 1)) rfl) ?_
              refine wo_nil ?_
              refine wg_ret ?_
              replace hd1 := on_rt hd2 hd1
              replace hd0 := on_rt hd1 hd0
              obtain rfl := Option.some.inj hd0
              refine body_end (D := []) (J := []) (rs := [.tmp 2]) (vs := [(.int .i64 1)]) ((((le4.trans le6).trans le37).trans le74).trans le86) rfl rfl ⟨rfl, trivial⟩ ?_
              exact ⟨rfl, rfl⟩
            · replace hd2 := sel_f e105 hd2; clear e105
              refine wg_skip ?_
              refine wg_seq ?_
              refine wg_region ?_
              refine wo_v rfl (val_assign (v := (.int .i64 0)) rfl) ?_
              refine wo_nil ?_
              refine wg_block ?_
              refine wg_loopS (γ := Nat × Int) true [50, 51, 52, 53, 56, 57, 58, 59, 60, 61, 62, 63, 5, 64, 65, 66, 67, 68, 69, 70, 71, 72, 73, 74, 75, 76, 77, 78, 79, 80, 81, 82, 83, 84, 85, 86, 87, 88, 89, 90, 91, 92, 93, 94, 2, 54, 55, 4] (fun g => [(4, (.int .i64 g.2))]) (fun g => [] ++ A) (fun g R => gauntletref04_Check_L2 N m x72 g.1 g.2 = some q81 ∧ True) (fun g => g.1) (N, 0) ⟨rfl, trivial⟩ ⟨[], List.Perm.refl _⟩ ⟨hd2, trivial⟩ (fun _ => rfl) ?_
              clear hd2
              rintro ⟨F106, x107⟩ j207 D208 R108 hD209 le109 ⟨hd2, _⟩
              obtain rfl := hD209 rfl
              rcases F106 with _ | F106
              · exact none_elim hd2
              replace hd2 : gauntletref04_Check_L2 N m x72 (F106 + 1) x107 = some q81 := hd2; rw [gauntletref04_Check_L2] at hd2
              refine wg_seq ?_
              refine wg_seq ?_
              refine wg_region ?_
              refine wo_v rfl (val_move (v := (.int .i64 x107)) rfl) ?_
              refine wo_fieldR rfl fd27_0 pt_Mach0 rfl (h2.mono ((((le6.trans le37).trans le74).trans le86).trans le109)) fun v110 h111 => ?_
              refine wo_loadR rfl ty3 rfl h111 fun v112 h113 => ?_
              obtain rfl := vrep_int.1 h113
              refine wo_v rfl (val_lss rfl rfl) ?_
              refine wo_nil ?_
              refine wg_cond rfl (fun e114 => ?_) (fun e114 => ?_)
              · replace hd2 := sel_t e114 hd2; clear e114
                refine wg_skip ?_
                replace hd2 := bd_some hd2; obtain ⟨q116, hd3, hd2⟩ := hd2
                refine wg_meet (γ := Unit) true [56, 57, 58, 59, 60, 61, 62, 63, 5, 64, 65, 66, 67, 68, 69, 70, 71, 72, 73, 74, 75, 76, 77, 78, 79, 80, 81, 82, 83, 84, 85, 86, 87, 88, 89, 90, 91, 92, 93, 94, 2] (fun g => []) (fun g => [] ++ A) (fun g R => q116 = Ex.go g ∧ True) ?_ ?_
                ·
                  refine wg_block ?_
                  refine wg_seq ?_
                  refine wg_region ?_
                  refine wo_fieldR rfl fd27_2 pt_Mach2 rfl (h2.mono ((((le6.trans le37).trans le74).trans le86).trans le109)) fun v119 h120 => ?_
                  refine wo_loadR rfl ty25 rfl h120 fun v121 h122 => ?_
                  refine wo_v rfl (val_move (v := (.int .i64 x72)) rfl) ?_
                  have g123 := (gd_some hd3).1; replace hd3 := (gd_some hd3).2
                  refine wo_indexR (i := x72.toNat) rfl sl25 rfl (sl_s h122) (idx_nonneg rfl g123.1) (okI_lt g123) fun v124 h125 => ?_
                  refine wo_loadR rfl ty50 rfl h125 fun v126 h127 => ?_
                  refine wo_v rfl (val_move (v := (.int .i64 x107)) rfl) ?_
                  have g128 := (gd_some hd3).1; replace hd3 := (gd_some hd3).2
                  refine wo_indexR (i := x107.toNat) rfl sl50 rfl (sl_s h127) (idx_nonneg rfl g128.1) (okI_lt g128) fun v129 h130 => ?_
                  refine wo_loadR rfl ty49 rfl h130 fun v131 h132 => ?_
                  obtain rfl := vrep_Edge.1 h132
                  refine wo_alloc rfl za49 fun b133 => ?_
                  refine wo_store (i := 0) (vs := [(.int .i64 ((ix (ix m.rows x72) x107).to)), (.int .i64 ((ix (ix m.rows x72) x107).out))]) sz49 rfl rfl rfl rfl rfl rfl (one_cons rfl (one_cons rfl one_nil)) ?_
                  refine wo_nil ?_
                  refine wg_seq ?_
                  refine wg_seq ?_
                  refine wg_guarded 8 [] [phX (.pointer (some ⟨b133, 0, none⟩)), phX (.int .i64 ((ix (ix m.rows x72) x107).to)), phX (.bool (decide (((ix (ix m.rows x72) x107).to) = (-1)))), phX (.bool (decide (((ix (ix m.rows x72) x107).to) = (-1)))), phG (true && ((decide (((ix (ix m.rows x72) x107).to) = (-1))) == true)) (phX (.pointer (some ⟨b133, 1, none⟩))), phG (true && ((decide (((ix (ix m.rows x72) x107).to) = (-1))) == true)) (phX (.int .i64 ((ix (ix m.rows x72) x107).out))), phG (true && ((decide (((ix (ix m.rows x72) x107).to) = (-1))) == true)) (phX (.bool (decide (((ix (ix m.rows x72) x107).out) = (-1))))), phX (.bool ((decide (((ix (ix m.rows x72) x107).to) = (-1))) && (decide (((ix (ix m.rows x72) x107).out) = (-1)))))] (by kernel_rfl) (by kernel_rfl) (monoOk_of ⟨mono_x, mono_x, mono_x, mono_x, (mono_g mono_x), (mono_g mono_x), (mono_g mono_x), mono_x, trivial⟩) ⟨?_, ?_, ?_, ?_, ?_, ?_, ?_, ?_, trivial⟩ fun R135 le136 => ?_
                  · intro l R0q hle ha hd
                    have a5 : l 5 = (.pointer (some ⟨b133, 0, none⟩)) := ha 5 rfl
                    exact gstep_plain rfl rfl rfl (ph_val (val_fieldB fd49_0 a5))
                  · intro l R1q hle ha hd
                    obtain ⟨d0, _⟩ := hd
                    have f64 : l 64 = (.pointer (some ⟨b133, 0, none⟩)) := d0 rfl
                    exact gstep_plain rfl rfl rfl (ph_val (val_loadB (i := 0) ag3 f64 rfl rfl))
                  · intro l R2q hle ha hd
                    obtain ⟨d0, _⟩ := hd
                    have f65 : l 65 = (.int .i64 ((ix (ix m.rows x72) x107).to)) := d0 rfl
                    exact gstep_plain rfl rfl rfl (ph_val (val_eql f65 rfl))
                  · intro l R3q hle ha hd
                    obtain ⟨d0, _⟩ := hd
                    have f66 : l 66 = (.bool (decide (((ix (ix m.rows x72) x107).to) = (-1)))) := d0 rfl
                    exact gstep_plain rfl rfl rfl (ph_val (val_move f66))
                  · intro l R4q hle ha hd
                    obtain ⟨d0, _⟩ := hd
                    have a5 : l 5 = (.pointer (some ⟨b133, 0, none⟩)) := ha 5 rfl
                    exact gstep_guard (Gj := true) (Bj := decide (((ix (ix m.rows x72) x107).to) = (-1))) rfl rfl rfl (gtrue (d0 rfl)) rfl (fun hG hB => ph_val (val_fieldB fd49_1 a5))
                  · intro l R5q hle ha hd
                    obtain ⟨d0, d1, _⟩ := hd
                    have f68g : phG (true && ((decide (((ix (ix m.rows x72) x107).to) = (-1))) == true)) (phX (.pointer (some ⟨b133, 1, none⟩))) (l 68) R5q := d0 rfl
                    exact gstep_guard (Gj := true) (Bj := decide (((ix (ix m.rows x72) x107).to) = (-1))) rfl rfl rfl (gtrue (d1 rfl)) rfl (fun hG hB => ph_val (val_loadB (i := 0) ag3 (show l 68 = (.pointer (some ⟨b133, 1, none⟩)) from f68g.1 (gandT rfl hB)) rfl rfl))
                  · intro l R6q hle ha hd
                    obtain ⟨d0, d1, _⟩ := hd
                    have f69g : phG (true && ((decide (((ix (ix m.rows x72) x107).to) = (-1))) == true)) (phX (.int .i64 ((ix (ix m.rows x72) x107).out))) (l 69) R6q := d0 rfl
                    exact gstep_guard (Gj := true) (Bj := decide (((ix (ix m.rows x72) x107).to) = (-1))) rfl rfl rfl (gtrue (d1 rfl)) rfl (fun hG hB => ph_val (val_eql (show l 69 = (.int .i64 ((ix (ix m.rows x72) x107).out)) from f69g.1 (gandT rfl hB)) rfl))
                  · intro l R7q hle ha hd
                    obtain ⟨d0, d1, _⟩ := hd
                    have f67 : l 67 = (.bool (decide (((ix (ix m.rows x72) x107).to) = (-1)))) := d0 rfl
                    have f70g : phG (true && ((decide (((ix (ix m.rows x72) x107).to) = (-1))) == true)) (phX (.bool (decide (((ix (ix m.rows x72) x107).out) = (-1))))) (l 70) R7q := d1 rfl
                    exact gstep_plain rfl rfl rfl (ph_val (val_and f67 (fun hb => (show l 70 = (.bool (decide (((ix (ix m.rows x72) x107).out) = (-1)))) from f70g.1 (gandT rfl hb))) rfl))
                  intro v137 h138
                  intro v139 h140
                  intro v141 h142
                  intro v143 h144
                  intro v145 h146
                  intro v147 h148
                  intro v149 h150
                  intro v151 h152
                  obtain rfl := Eq.symm h138
                  obtain rfl := Eq.symm h140
                  obtain rfl := Eq.symm h142
                  obtain rfl := Eq.symm h144
                  obtain rfl := Eq.symm h152
                  refine wo_nil ?_
                  refine wg_cond rfl (fun e153 => ?_) (fun e153 => ?_)
                  · replace hd3 := sel_t e153 hd3; clear e153
                    refine wg_exit ?_
                    exact ⟨(fun _ => rfl), le136, (by repeat (first | exact off_self | refine off_upd rfl ?_ | refine off_setl rfl ?_ | refine off_mask_sub rfl ?_)), (), trivial, ⟨[box b133 [(.int .i64 ((ix (ix m.rows x72) x107).to)), (.int .i64 ((ix (ix m.rows x72) x107).out))] 49], (List.Perm.refl _)⟩, (Option.some.inj hd3).symm, trivial⟩
                  · replace hd3 := sel_f e153 hd3; clear e153
                    refine wg_skip ?_
                    refine wg_seq ?_
                    refine wg_guarded 23 [] [phX (.pointer (some ⟨b133, 0, none⟩)), phX (.int .i64 ((ix (ix m.rows x72) x107).to)), phX (.bool (decide (((ix (ix m.rows x72) x107).to) < 0))), phX (.bool (decide (((ix (ix m.rows x72) x107).to) < 0))), phG (true && ((decide (((ix (ix m.rows x72) x107).to) < 0)) == false)) (phX (.pointer (some ⟨b133, 0, none⟩))), phG (true && ((decide (((ix (ix m.rows x72) x107).to) < 0)) == false)) (phX (.int .i64 ((ix (ix m.rows x72) x107).to))), phG (true && ((decide (((ix (ix m.rows x72) x107).to) < 0)) == false)) (phP (tSl false (tSl false kEdge)) m.rows), phG (true && ((decide (((ix (ix m.rows x72) x107).to) < 0)) == false)) (phR (tSl false (tSl false kEdge)) m.rows), phG (true && ((decide (((ix (ix m.rows x72) x107).to) < 0)) == false)) (phX (.int .i64 (↑m.rows.length : Int))), phG (true && ((decide (((ix (ix m.rows x72) x107).to) < 0)) == false)) (phX (.bool (decide ((↑m.rows.length : Int) ≤ ((ix (ix m.rows x72) x107).to))))), phX (.bool ((decide (((ix (ix m.rows x72) x107).to) < 0)) || (decide ((↑m.rows.length : Int) ≤ ((ix (ix m.rows x72) x107).to))))), phX (.bool ((decide (((ix (ix m.rows x72) x107).to) < 0)) || (decide ((↑m.rows.length : Int) ≤ ((ix (ix m.rows x72) x107).to))))), phG (true && (((decide (((ix (ix m.rows x72) x107).to) < 0)) || (decide ((↑m.rows.length : Int) ≤ ((ix (ix m.rows x72) x107).to)))) == false)) (phX (.pointer (some ⟨b133, 1, none⟩))), phG (true && (((decide (((ix (ix m.rows x72) x107).to) < 0)) || (decide ((↑m.rows.length : Int) ≤ ((ix (ix m.rows x72) x107).to)))) == false)) (phX (.int .i64 ((ix (ix m.rows x72) x107).out))), phG (true && (((decide (((ix (ix m.rows x72) x107).to) < 0)) || (decide ((↑m.rows.length : Int) ≤ ((ix (ix m.rows x72) x107).to)))) == false)) (phX (.bool (decide (((ix (ix m.rows x72) x107).out) < 0)))), phX (.bool (((decide (((ix (ix m.rows x72) x107).to) < 0)) || (decide ((↑m.rows.length : Int) ≤ ((ix (ix m.rows x72) x107).to)))) || (decide (((ix (ix m.rows x72) x107).out) < 0)))), phX (.bool (((decide (((ix (ix m.rows x72) x107).to) < 0)) || (decide ((↑m.rows.length : Int) ≤ ((ix (ix m.rows x72) x107).to)))) || (decide (((ix (ix m.rows x72) x107).out) < 0)))), phG (true && ((((decide (((ix (ix m.rows x72) x107).to) < 0)) || (decide ((↑m.rows.length : Int) ≤ ((ix (ix m.rows x72) x107).to)))) || (decide (((ix (ix m.rows x72) x107).out) < 0))) == false)) (phX (.pointer (some ⟨b133, 1, none⟩))), phG (true && ((((decide (((ix (ix m.rows x72) x107).to) < 0)) || (decide ((↑m.rows.length : Int) ≤ ((ix (ix m.rows x72) x107).to)))) || (decide (((ix (ix m.rows x72) x107).out) < 0))) == false)) (phX (.int .i64 ((ix (ix m.rows x72) x107).out))), phG (true && ((((decide (((ix (ix m.rows x72) x107).to) < 0)) || (decide ((↑m.rows.length : Int) ≤ ((ix (ix m.rows x72) x107).to)))) || (decide (((ix (ix m.rows x72) x107).out) < 0))) == false)) (phP (tInt .i64) m.outputs), phG (true && ((((decide (((ix (ix m.rows x72) x107).to) < 0)) || (decide ((↑m.rows.length : Int) ≤ ((ix (ix m.rows x72) x107).to)))) || (decide (((ix (ix m.rows x72) x107).out) < 0))) == false)) (phX (.int .i64 m.outputs)), phG (true && ((((decide (((ix (ix m.rows x72) x107).to) < 0)) || (decide ((↑m.rows.length : Int) ≤ ((ix (ix m.rows x72) x107).to)))) || (decide (((ix (ix m.rows x72) x107).out) < 0))) == false)) (phX (.bool (decide (m.outputs ≤ ((ix (ix m.rows x72) x107).out))))), phX (.bool ((((decide (((ix (ix m.rows x72) x107).to) < 0)) || (decide ((↑m.rows.length : Int) ≤ ((ix (ix m.rows x72) x107).to)))) || (decide (((ix (ix m.rows x72) x107).out) < 0))) || (decide (m.outputs ≤ ((ix (ix m.rows x72) x107).out)))))] (by kernel_rfl) (by kernel_rfl) (monoOk_of ⟨mono_x, mono_x, mono_x, mono_x, (mono_g mono_x), (mono_g mono_x), (mono_g mono_p), (mono_g mono_r), (mono_g mono_x), (mono_g mono_x), mono_x, mono_x, (mono_g mono_x), (mono_g mono_x), (mono_g mono_x), mono_x, mono_x, (mono_g mono_x), (mono_g mono_x), (mono_g mono_p), (mono_g mono_x), (mono_g mono_x), mono_x, trivial⟩) ⟨?_, ?_, ?_, ?_, ?_, ?_, ?_, ?_, ?_, ?_, ?_, ?_, ?_, ?_, ?_, ?_, ?_, ?_, ?_, ?_, ?_, ?_, ?_, trivial⟩ fun R154 le155 => ?_
                    · intro l R0q hle ha hd
                      have a5 : l 5 = (.pointer (some ⟨b133, 0, none⟩)) := ha 5 rfl
                      exact gstep_plain rfl rfl rfl (ph_val (val_fieldB fd49_0 a5))
                    · intro l R1q hle ha hd
                      obtain ⟨d0, _⟩ := hd
                      have f72 : l 72 = (.pointer (some ⟨b133, 0, none⟩)) := d0 rfl
                      exact gstep_plain rfl rfl rfl (ph_val (val_loadB (i := 0) ag3 f72 rfl rfl))
                    · intro l R2q hle ha hd
                      obtain ⟨d0, _⟩ := hd
                      have f73 : l 73 = (.int .i64 ((ix (ix m.rows x72) x107).to)) := d0 rfl
                      exact gstep_plain rfl rfl rfl (ph_val (val_lss f73 rfl))
                    · intro l R3q hle ha hd
                      obtain ⟨d0, _⟩ := hd
                      have f74 : l 74 = (.bool (decide (((ix (ix m.rows x72) x107).to) < 0))) := d0 rfl
                      exact gstep_plain rfl rfl rfl (ph_val (val_move f74))
                    · intro l R4q hle ha hd
                      obtain ⟨d0, _⟩ := hd
                      have a5 : l 5 = (.pointer (some ⟨b133, 0, none⟩)) := ha 5 rfl
                      exact gstep_guard (Gj := true) (Bj := decide (((ix (ix m.rows x72) x107).to) < 0)) rfl rfl rfl (gtrue (d0 rfl)) rfl (fun hG hB => ph_val (val_fieldB fd49_0 a5))
                    · intro l R5q hle ha hd
                      obtain ⟨d0, d1, _⟩ := hd
                      have f76g : phG (true && ((decide (((ix (ix m.rows x72) x107).to) < 0)) == false)) (phX (.pointer (some ⟨b133, 0, none⟩))) (l 76) R5q := d0 rfl
                      exact gstep_guard (Gj := true) (Bj := decide (((ix (ix m.rows x72) x107).to) < 0)) rfl rfl rfl (gtrue (d1 rfl)) rfl (fun hG hB => ph_val (val_loadB (i := 0) ag3 (show l 76 = (.pointer (some ⟨b133, 0, none⟩)) from f76g.1 (gandT rfl hB)) rfl rfl))
                    · intro l R6q hle ha hd
                      obtain ⟨d0, _⟩ := hd
                      have a1 : l 1 = v1 := ha 1 rfl
                      exact gstep_guard (Gj := true) (Bj := decide (((ix (ix m.rows x72) x107).to) < 0)) rfl rfl rfl (gtrue (d0 rfl)) rfl (fun hG hB => ph_fieldR fd27_2 pt_Mach2 a1 ((h2.mono (((((le6.trans le37).trans le74).trans le86).trans le109).trans le136)).mono hle))
                    · intro l R7q hle ha hd
                      obtain ⟨d0, d1, _⟩ := hd
                      have f78g : phG (true && ((decide (((ix (ix m.rows x72) x107).to) < 0)) == false)) (phP (tSl false (tSl false kEdge)) m.rows) (l 78) R7q := d0 rfl
                      exact gstep_guard (Gj := true) (Bj := decide (((ix (ix m.rows x72) x107).to) < 0)) rfl rfl rfl (gtrue (d1 rfl)) rfl (fun hG hB => ph_loadR ty25 rfl (f78g.1 (gandT rfl hB)))
                    · intro l R8q hle ha hd
                      obtain ⟨d0, d1, _⟩ := hd
                      have f79g : phG (true && ((decide (((ix (ix m.rows x72) x107).to) < 0)) == false)) (phR (tSl false (tSl false kEdge)) m.rows) (l 79) R8q := d0 rfl
                      exact gstep_guard (Gj := true) (Bj := decide (((ix (ix m.rows x72) x107).to) < 0)) rfl rfl rfl (gtrue (d1 rfl)) rfl (fun hG hB => ph_val (val_lenR rfl Try.underlying25 rfl (sl_s (f79g.1 (gandT rfl hB)))))
                    · intro l R9q hle ha hd
                      obtain ⟨d0, d1, d2, _⟩ := hd
                      have f77g : phG (true && ((decide (((ix (ix m.rows x72) x107).to) < 0)) == false)) (phX (.int .i64 ((ix (ix m.rows x72) x107).to))) (l 77) R9q := d0 rfl
                      have f80g : phG (true && ((decide (((ix (ix m.rows x72) x107).to) < 0)) == false)) (phX (.int .i64 (↑m.rows.length : Int))) (l 80) R9q := d1 rfl
                      exact gstep_guard (Gj := true) (Bj := decide (((ix (ix m.rows x72) x107).to) < 0)) rfl rfl rfl (gtrue (d2 rfl)) rfl (fun hG hB => ph_val (val_geq (show l 77 = (.int .i64 ((ix (ix m.rows x72) x107).to)) from f77g.1 (gandT rfl hB)) (show l 80 = (.int .i64 (↑m.rows.length : Int)) from f80g.1 (gandT rfl hB))))
                    · intro l R10q hle ha hd
                      obtain ⟨d0, d1, _⟩ := hd
                      have f75 : l 75 = (.bool (decide (((ix (ix m.rows x72) x107).to) < 0))) := d0 rfl
                      have f81g : phG (true && ((decide (((ix (ix m.rows x72) x107).to) < 0)) == false)) (phX (.bool (decide ((↑m.rows.length : Int) ≤ ((ix (ix m.rows x72) x107).to))))) (l 81) R10q := d1 rfl
                      exact gstep_plain rfl rfl rfl (ph_val (val_or f75 rfl (fun hb => (show l 81 = (.bool (decide ((↑m.rows.length : Int) ≤ ((ix (ix m.rows x72) x107).to)))) from f81g.1 (gandT rfl hb)))))
                    · intro l R11q hle ha hd
                      obtain ⟨d0, d1, _⟩ := hd
                      have f82 : l 82 = (.bool ((decide (((ix (ix m.rows x72) x107).to) < 0)) || (decide ((↑m.rows.length : Int) ≤ ((ix (ix m.rows x72) x107).to))))) := d0 rfl
                      exact gstep_plain rfl rfl rfl (ph_val (val_move f82))
                    · intro l R12q hle ha hd
                      obtain ⟨d0, _⟩ := hd
                      have a5 : l 5 = (.pointer (some ⟨b133, 0, none⟩)) := ha 5 rfl
                      exact gstep_guard (Gj := true) (Bj := (decide (((ix (ix m.rows x72) x107).to) < 0)) || (decide ((↑m.rows.length : Int) ≤ ((ix (ix m.rows x72) x107).to)))) rfl rfl rfl (gtrue (d0 rfl)) rfl (fun hG hB => ph_val (val_fieldB fd49_1 a5))
                    · intro l R13q hle ha hd
                      obtain ⟨d0, d1, _⟩ := hd
                      have f84g : phG (true && (((decide (((ix (ix m.rows x72) x107).to) < 0)) || (decide ((↑m.rows.length : Int) ≤ ((ix (ix m.rows x72) x107).to)))) == false)) (phX (.pointer (some ⟨b133, 1, none⟩))) (l 84) R13q := d0 rfl
                      exact gstep_guard (Gj := true) (Bj := (decide (((ix (ix m.rows x72) x107).to) < 0)) || (decide ((↑m.rows.length : Int) ≤ ((ix (ix m.rows x72) x107).to)))) rfl rfl rfl (gtrue (d1 rfl)) rfl (fun hG hB => ph_val (val_loadB (i := 0) ag3 (show l 84 = (.pointer (some ⟨b133, 1, none⟩)) from f84g.1 (gandT rfl hB)) rfl rfl))
                    · intro l R14q hle ha hd
                      obtain ⟨d0, d1, _⟩ := hd
                      have f85g : phG (true && (((decide (((ix (ix m.rows x72) x107).to) < 0)) || (decide ((↑m.rows.length : Int) ≤ ((ix (ix m.rows x72) x107).to)))) == false)) (phX (.int .i64 ((ix (ix m.rows x72) x107).out))) (l 85) R14q := d0 rfl
                      exact gstep_guard (Gj := true) (Bj := (decide (((ix (ix m.rows x72) x107).to) < 0)) || (decide ((↑m.rows.length : Int) ≤ ((ix (ix m.rows x72) x107).to)))) rfl rfl rfl (gtrue (d1 rfl)) rfl (fun hG hB => ph_val (val_lss (show l 85 = (.int .i64 ((ix (ix m.rows x72) x107).out)) from f85g.1 (gandT rfl hB)) rfl))
                    · intro l R15q hle ha hd
                      obtain ⟨d0, d1, _⟩ := hd
                      have f83 : l 83 = (.bool ((decide (((ix (ix m.rows x72) x107).to) < 0)) || (decide ((↑m.rows.length : Int) ≤ ((ix (ix m.rows x72) x107).to))))) := d0 rfl
                      have f86g : phG (true && (((decide (((ix (ix m.rows x72) x107).to) < 0)) || (decide ((↑m.rows.length : Int) ≤ ((ix (ix m.rows x72) x107).to)))) == false)) (phX (.bool (decide (((ix (ix m.rows x72) x107).out) < 0)))) (l 86) R15q := d1 rfl
                      exact gstep_plain rfl rfl rfl (ph_val (val_or f83 rfl (fun hb => (show l 86 = (.bool (decide (((ix (ix m.rows x72) x107).out) < 0))) from f86g.1 (gandT rfl hb)))))
                    · intro l R16q hle ha hd
                      obtain ⟨d0, d1, _⟩ := hd
                      have f87 : l 87 = (.bool (((decide (((ix (ix m.rows x72) x107).to) < 0)) || (decide ((↑m.rows.length : Int) ≤ ((ix (ix m.rows x72) x107).to)))) || (decide (((ix (ix m.rows x72) x107).out) < 0)))) := d0 rfl
                      exact gstep_plain rfl rfl rfl (ph_val (val_move f87))
                    · intro l R17q hle ha hd
                      obtain ⟨d0, _⟩ := hd
                      have a5 : l 5 = (.pointer (some ⟨b133, 0, none⟩)) := ha 5 rfl
                      exact gstep_guard (Gj := true) (Bj := ((decide (((ix (ix m.rows x72) x107).to) < 0)) || (decide ((↑m.rows.length : Int) ≤ ((ix (ix m.rows x72) x107).to)))) || (decide (((ix (ix m.rows x72) x107).out) < 0))) rfl rfl rfl (gtrue (d0 rfl)) rfl (fun hG hB => ph_val (val_fieldB fd49_1 a5))
                    · intro l R18q hle ha hd
                      obtain ⟨d0, d1, _⟩ := hd
                      have f89g : phG (true && ((((decide (((ix (ix m.rows x72) x107).to) < 0)) || (decide ((↑m.rows.length : Int) ≤ ((ix (ix m.rows x72) x107).to)))) || (decide (((ix (ix m.rows x72) x107).out) < 0))) == false)) (phX (.pointer (some ⟨b133, 1, none⟩))) (l 89) R18q := d0 rfl
                      exact gstep_guard (Gj := true) (Bj := ((decide (((ix (ix m.rows x72) x107).to) < 0)) || (decide ((↑m.rows.length : Int) ≤ ((ix (ix m.rows x72) x107).to)))) || (decide (((ix (ix m.rows x72) x107).out) < 0))) rfl rfl rfl (gtrue (d1 rfl)) rfl (fun hG hB => ph_val (val_loadB (i := 0) ag3 (show l 89 = (.pointer (some ⟨b133, 1, none⟩)) from f89g.1 (gandT rfl hB)) rfl rfl))
                    · intro l R19q hle ha hd
                      obtain ⟨d0, _⟩ := hd
                      have a1 : l 1 = v1 := ha 1 rfl
                      exact gstep_guard (Gj := true) (Bj := ((decide (((ix (ix m.rows x72) x107).to) < 0)) || (decide ((↑m.rows.length : Int) ≤ ((ix (ix m.rows x72) x107).to)))) || (decide (((ix (ix m.rows x72) x107).out) < 0))) rfl rfl rfl (gtrue (d0 rfl)) rfl (fun hG hB => ph_fieldR fd27_1 pt_Mach1 a1 ((h2.mono (((((le6.trans le37).trans le74).trans le86).trans le109).trans le136)).mono hle))
                    · intro l R20q hle ha hd
                      obtain ⟨d0, d1, _⟩ := hd
                      have f91g : phG (true && ((((decide (((ix (ix m.rows x72) x107).to) < 0)) || (decide ((↑m.rows.length : Int) ≤ ((ix (ix m.rows x72) x107).to)))) || (decide (((ix (ix m.rows x72) x107).out) < 0))) == false)) (phP (tInt .i64) m.outputs) (l 91) R20q := d0 rfl
                      exact gstep_guard (Gj := true) (Bj := ((decide (((ix (ix m.rows x72) x107).to) < 0)) || (decide ((↑m.rows.length : Int) ≤ ((ix (ix m.rows x72) x107).to)))) || (decide (((ix (ix m.rows x72) x107).out) < 0))) rfl rfl rfl (gtrue (d1 rfl)) rfl (fun hG hB => ph_exact (ph_loadR ty3 rfl (f91g.1 (gandT rfl hB))) (fun _ _ h => vrep_int.1 h))
                    · intro l R21q hle ha hd
                      obtain ⟨d0, d1, d2, _⟩ := hd
                      have f90g : phG (true && ((((decide (((ix (ix m.rows x72) x107).to) < 0)) || (decide ((↑m.rows.length : Int) ≤ ((ix (ix m.rows x72) x107).to)))) || (decide (((ix (ix m.rows x72) x107).out) < 0))) == false)) (phX (.int .i64 ((ix (ix m.rows x72) x107).out))) (l 90) R21q := d0 rfl
                      have f92g : phG (true && ((((decide (((ix (ix m.rows x72) x107).to) < 0)) || (decide ((↑m.rows.length : Int) ≤ ((ix (ix m.rows x72) x107).to)))) || (decide (((ix (ix m.rows x72) x107).out) < 0))) == false)) (phX (.int .i64 m.outputs)) (l 92) R21q := d1 rfl
                      exact gstep_guard (Gj := true) (Bj := ((decide (((ix (ix m.rows x72) x107).to) < 0)) || (decide ((↑m.rows.length : Int) ≤ ((ix (ix m.rows x72) x107).to)))) || (decide (((ix (ix m.rows x72) x107).out) < 0))) rfl rfl rfl (gtrue (d2 rfl)) rfl (fun hG hB => ph_val (val_geq (show l 90 = (.int .i64 ((ix (ix m.rows x72) x107).out)) from f90g.1 (gandT rfl hB)) (show l 92 = (.int .i64 m.outputs) from f92g.1 (gandT rfl hB))))
                    · intro l R22q hle ha hd
                      obtain ⟨d0, d1, _⟩ := hd
                      have f88 : l 88 = (.bool (((decide (((ix (ix m.rows x72) x107).to) < 0)) || (decide ((↑m.rows.length : Int) ≤ ((ix (ix m.rows x72) x107).to)))) || (decide (((ix (ix m.rows x72) x107).out) < 0)))) := d0 rfl
                      have f93g : phG (true && ((((decide (((ix (ix m.rows x72) x107).to) < 0)) || (decide ((↑m.rows.length : Int) ≤ ((ix (ix m.rows x72) x107).to)))) || (decide (((ix (ix m.rows x72) x107).out) < 0))) == false)) (phX (.bool (decide (m.outputs ≤ ((ix (ix m.rows x72) x107).out))))) (l 93) R22q := d1 rfl
                      exact gstep_plain rfl rfl rfl (ph_val (val_or f88 rfl (fun hb => (show l 93 = (.bool (decide (m.outputs ≤ ((ix (ix m.rows x72) x107).out)))) from f93g.1 (gandT rfl hb)))))
                    intro v156 h157
                    intro v158 h159
                    intro v160 h161
                    intro v162 h163
                    intro v164 h165
                    intro v166 h167
                    intro v168 h169
                    intro v170 h171
                    intro v172 h173
                    intro v174 h175
                    intro v176 h177
                    intro v178 h179
                    intro v180 h181
                    intro v182 h183
                    intro v184 h185
                    intro v186 h187
                    intro v188 h189
                    intro v190 h191
                    intro v192 h193
                    intro v194 h195
                    intro v196 h197
                    intro v198 h199
                    intro v200 h201
                    obtain rfl := Eq.symm h157
                    obtain rfl := Eq.symm h159
                    obtain rfl := Eq.symm h161
                    obtain rfl := Eq.symm h163
                    obtain rfl := Eq.symm h177
                    obtain rfl := Eq.symm h179
                    obtain rfl := Eq.symm h187
                    obtain rfl := Eq.symm h189
                    obtain rfl := Eq.symm h201
                    refine wo_nil ?_
                    refine wg_cond rfl (fun e202 => ?_) (fun e202 => ?_)
                    · replace hd3 := sel_t e202 hd3; clear e202
                      refine wg_seq ?_
                      refine wg_region ?_
                      refine wo_v rfl (val_assign (v := (.int .i64 1)) rfl) ?_
                      refine wo_nil ?_
                      refine wg_ret ?_
                      replace hd2 := on_rt hd3 hd2
                      replace hd1 := on_rt hd2 hd1
                      replace hd0 := on_rt hd1 hd0
                      obtain rfl := Option.some.inj hd0
                      refine body_end (D := []) (J := [box b133 [(.int .i64 ((ix (ix m.rows x72) x107).to)), (.int .i64 ((ix (ix m.rows x72) x107).out))] 49]) (rs := [.tmp 2]) (vs := [(.int .i64 1)]) (((((((le4.trans le6).trans le37).trans le74).trans le86).trans le109).trans le136).trans le155) rfl rfl ⟨rfl, trivial⟩ ?_
                      exact ⟨rfl, rfl⟩
                    · replace hd3 := sel_f e202 hd3; clear e202
                      refine wg_skip ?_
                      exact ⟨(fun _ => rfl), (le136.trans le155), (by repeat (first | exact off_self | refine off_upd rfl ?_ | refine off_setl rfl ?_ | refine off_mask_sub rfl ?_)), (), trivial, ⟨[box b133 [(.int .i64 ((ix (ix m.rows x72) x107).to)), (.int .i64 ((ix (ix m.rows x72) x107).out))] 49], (List.Perm.refl _)⟩, (Option.some.inj hd3).symm, trivial⟩
                ·
                  rintro o115 j203 D204 R117 hD205 le118 ⟨rfl, _⟩
                  obtain rfl := hD205 rfl
                  replace hd2 := on_go hd2
                  refine wg_region ?_
                  refine wo_v rfl (val_move (v := (.int .i64 x107)) rfl) ?_
                  have g206 := (gd_some hd2).1; replace hd2 := (gd_some hd2).2
                  refine wo_v rfl (val_add rfl rfl g206) ?_
                  refine wo_v rfl (val_assign (v := (.int .i64 (x107 + 1))) rfl) ?_
                  refine wo_nil ?_
                  exact ⟨(fun _ => rfl), le118, (by repeat (first | exact off_self | refine off_upd rfl ?_ | refine off_setl rfl ?_ | refine off_mask_sub rfl ?_)), (F106, x107 + 1), Nat.lt_succ_self _, ⟨rfl, trivial⟩, ⟨[], List.Perm.refl _⟩, hd2, trivial⟩
              · replace hd2 := sel_f e114 hd2; clear e114
                refine wg_exit ?_
                exact ⟨(fun _ => rfl), (le86.trans le109), (by repeat (first | exact off_self | refine off_upd rfl ?_ | refine off_setl rfl ?_ | refine off_mask_sub rfl ?_)), (), trivial, ⟨[], List.Perm.refl _⟩, (Option.some.inj hd2).symm, trivial⟩
          ·
            rintro o80 j210 D211 R82 hD212 le83 ⟨rfl, _⟩
            obtain rfl := hD212 rfl
            replace hd1 := on_go hd1
            refine wg_region ?_
            refine wo_v rfl (val_move (v := (.int .i64 x72)) rfl) ?_
            have g213 := (gd_some hd1).1; replace hd1 := (gd_some hd1).2
            refine wo_v rfl (val_add rfl rfl g213) ?_
            refine wo_v rfl (val_assign (v := (.int .i64 (x72 + 1))) rfl) ?_
            refine wo_nil ?_
            exact ⟨(fun _ => rfl), le83, (by repeat (first | exact off_self | refine off_upd rfl ?_ | refine off_setl rfl ?_ | refine off_mask_sub rfl ?_)), (F71, x72 + 1), Nat.lt_succ_self _, ⟨rfl, trivial⟩, ⟨[], List.Perm.refl _⟩, hd1, trivial⟩
        · replace hd1 := sel_f e79 hd1; clear e79
          refine wg_exit ?_
          exact ⟨(fun _ => rfl), le74, (by repeat (first | exact off_self | refine off_upd rfl ?_ | refine off_setl rfl ?_ | refine off_mask_sub rfl ?_)), (), trivial, ⟨[], List.Perm.refl _⟩, (Option.some.inj hd1).symm, trivial⟩
      ·
        rintro o67 j217 D218 R69 hD219 le70 ⟨rfl, _⟩
        obtain rfl := hD219 rfl
        replace hd0 := on_go hd0
        refine wg_seq ?_
        refine wg_region ?_
        refine wo_v rfl (val_assign (v := (.int .i64 0)) rfl) ?_
        refine wo_nil ?_
        refine wg_ret ?_
        obtain rfl := Option.some.inj hd0
        refine body_end (D := []) (J := []) (rs := [.tmp 2]) (vs := [(.int .i64 0)]) (((le4.trans le6).trans le37).trans le70) rfl rfl ⟨rfl, trivial⟩ ?_
        exact ⟨rfl, rfl⟩
theorem en33 : Enters Try.prog 33 := enters_of Try.func33 rfl (by kernel_rfl)
end GV
end Go.Proofs.Ytncblcdhmcmkmaa
