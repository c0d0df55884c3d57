/- The walks of the functions; printed. -/
import Derived.Test.YtncblcdhmcmkmaaShWc
import Derived.Test.YtncblcdhmcmkmaaRows
namespace Go.Proofs.Ytncblcdhmcmkmaa
namespace GV
open Go.IntWalk
set_option linter.unusedVariables false
set_option linter.unusedSimpArgs false
set_option maxRecDepth 100000
set_option maxHeartbeats 20000000
theorem en31 : Enters Try.prog 31 := enters_of Try.func31 rfl (by kernel_rfl)
theorem c_gauntletlaw06_machine {N : Nat} {R : RH} {m : Mach} {v_m : Value} (h_m : VRep (kMach true true) R v_m m) {e : Int} {want : Mach} {v_want : Value} (h_want : VRep (kMach false false) R v_want want) {r : Bool} (hd0 : gauntletlaw06_machine N m e want = some r) : CallP Try.prog 24 #[v_m, (.int .i64 e), v_want] R (fun v R' => v = (.bool r)) := by
  refine callP_of_wg (args := [v_m, (.int .i64 e), v_want]) Try.func24 rfl rfl fun A => ?_
  rw [gauntletlaw06_machine] at hd0
  refine wg_seq ?_
  refine wg_region ?_
  refine wo_boxR (T := (kMach true true)) rfl rfl h_m fun v1 R3 le4 h2 => ?_
  refine wo_boxR (T := (kMach false false)) rfl rfl (h_want.mono le4) fun v5 R7 le8 h6 => ?_
  refine wo_v rfl (val_assign (v := (.bool false)) rfl) ?_
  refine wo_nil ?_
  refine wg_seq ?_
  refine wg_seq ?_
  replace hd0 := bd_some hd0; obtain ⟨y9, c10, hd0⟩ := hd0
  refine wg_guarded 17 [] [phX (.int .i64 e), phX (.bool (decide (e ≠ 0))), phX (.bool (decide (e ≠ 0))), phG (true && ((decide (e ≠ 0)) == false)) (phR (kMach true true) m), phG (true && ((decide (e ≠ 0)) == false)) (phR (kMach false false) want), phG (true && ((decide (e ≠ 0)) == false)) (phX (.bool (y9.getD default))), phG (true && ((decide (e ≠ 0)) == false)) (phX (.bool (!(y9.getD default)))), phX (.bool ((decide (e ≠ 0)) || (!(y9.getD default)))), phX (.bool ((decide (e ≠ 0)) || (!(y9.getD default)))), phG (true && (((decide (e ≠ 0)) || (!(y9.getD default))) == false)) (phP (tSl true (tSl true kEdge)) m.rows), phG (true && (((decide (e ≠ 0)) || (!(y9.getD default))) == false)) (phR (tSl true (tSl true kEdge)) m.rows), phG (true && (((decide (e ≠ 0)) || (!(y9.getD default))) == false)) (phX (.int .i64 (↑m.rows.length : Int))), phG (true && (((decide (e ≠ 0)) || (!(y9.getD default))) == false)) (phP (tSl true (tSl true kEdge)) m.rows), phG (true && (((decide (e ≠ 0)) || (!(y9.getD default))) == false)) (phR (tSl true (tSl true kEdge)) m.rows), phG (true && (((decide (e ≠ 0)) || (!(y9.getD default))) == false)) (phX (.int .i64 (↑m.rows.length : Int))), phG (true && (((decide (e ≠ 0)) || (!(y9.getD default))) == false)) (phX (.bool (decide ((↑m.rows.length : Int) ≠ (↑m.rows.length : Int))))), phX (.bool (((decide (e ≠ 0)) || (!(y9.getD default))) || (decide ((↑m.rows.length : Int) ≠ (↑m.rows.length : Int)))))] (by kernel_rfl) (by kernel_rfl) (monoOk_of ⟨mono_x, mono_x, mono_x, (mono_g mono_r), (mono_g mono_r), (mono_g mono_x), (mono_g mono_x), mono_x, mono_x, (mono_g mono_p), (mono_g mono_r), (mono_g mono_x), (mono_g mono_p), (mono_g mono_r), (mono_g mono_x), (mono_g mono_x), mono_x, trivial⟩) ⟨?_, ?_, ?_, ?_, ?_, ?_, ?_, ?_, ?_, ?_, ?_, ?_, ?_, ?_, ?_, ?_, ?_, trivial⟩ fun R11 le12 => ?_
  · intro l R0q hle ha hd
    have a1 : l 1 = (.int .i64 e) := ha 1 rfl
    exact gstep_plain rfl rfl rfl (ph_val (val_move a1))
  · intro l R1q hle ha hd
    obtain ⟨d0, _⟩ := hd
    have f8 : l 8 = (.int .i64 e) := d0 rfl
    exact gstep_plain rfl rfl rfl (ph_val (val_neq f8 rfl))
  · intro l R2q hle ha hd
    obtain ⟨d0, _⟩ := hd
    have f9 : l 9 = (.bool (decide (e ≠ 0))) := d0 rfl
    exact gstep_plain rfl rfl rfl (ph_val (val_move f9))
  · intro l R3q hle ha hd
    obtain ⟨d0, _⟩ := hd
    have a3 : l 3 = v1 := ha 3 rfl
    exact gstep_guard (Gj := true) (Bj := decide (e ≠ 0)) rfl rfl rfl (gtrue (d0 rfl)) rfl (fun hG hB => ph_loadR ty27 a3 ((h2.mono le8).mono hle))
  · intro l R4q hle ha hd
    obtain ⟨d0, _⟩ := hd
    have a5 : l 5 = v5 := ha 5 rfl
    exact gstep_guard (Gj := true) (Bj := decide (e ≠ 0)) rfl rfl rfl (gtrue (d0 rfl)) rfl (fun hG hB => ph_loadR ty27 a5 (h6.mono hle))
  · intro l R5q hle ha hd
    obtain ⟨d0, d1, d2, d3, _⟩ := hd
    have f11g : phG (true && ((decide (e ≠ 0)) == false)) (phR (kMach true true) m) (l 11) R5q := d0 rfl
    have f12g : phG (true && ((decide (e ≠ 0)) == false)) (phR (kMach false false) want) (l 12) R5q := d1 rfl
    exact gstep_guard (Gj := true) (Bj := decide (e ≠ 0)) rfl rfl rfl (gtrue (d2 rfl)) rfl (fun hG hB => ph_callP (vs := [(l 11), (l 12)]) en31 rfl ((by have z := (gop_def c10 (gandT hG hB)); exact c_gauntletref04_Same (Sub.v (B := (kMach false false)) (sub_as (sub_pair Sub.refl (sub_pair Sub.refl (sub_sl (sub_sl Sub.refl (fun _ => rfl)) (fun _ => rfl))))) (f11g.1 (gandT rfl hB))) (f12g.1 (gandT rfl hB)) z)) (fun _ _ h => h))
  · intro l R6q hle ha hd
    obtain ⟨d0, d1, _⟩ := hd
    have f13g : phG (true && ((decide (e ≠ 0)) == false)) (phX (.bool (y9.getD default))) (l 13) R6q := d0 rfl
    exact gstep_guard (Gj := true) (Bj := decide (e ≠ 0)) rfl rfl rfl (gtrue (d1 rfl)) rfl (fun hG hB => ph_val (val_not (show l 13 = (.bool (y9.getD default)) from f13g.1 (gandT rfl hB))))
  · intro l R7q hle ha hd
    obtain ⟨d0, d1, _⟩ := hd
    have f10 : l 10 = (.bool (decide (e ≠ 0))) := d0 rfl
    have f14g : phG (true && ((decide (e ≠ 0)) == false)) (phX (.bool (!(y9.getD default)))) (l 14) R7q := d1 rfl
    exact gstep_plain rfl rfl rfl (ph_val (val_or f10 rfl (fun hb => (show l 14 = (.bool (!(y9.getD default))) from f14g.1 (gandT rfl hb)))))
  · intro l R8q hle ha hd
    obtain ⟨d0, d1, _⟩ := hd
    have f15 : l 15 = (.bool ((decide (e ≠ 0)) || (!(y9.getD default)))) := d0 rfl
    exact gstep_plain rfl rfl rfl (ph_val (val_move f15))
  · intro l R9q hle ha hd
    obtain ⟨d0, _⟩ := hd
    have a3 : l 3 = v1 := ha 3 rfl
    exact gstep_guard (Gj := true) (Bj := (decide (e ≠ 0)) || (!(y9.getD default))) rfl rfl rfl (gtrue (d0 rfl)) rfl (fun hG hB => ph_fieldR fd27_2 pt_Mach2 a3 ((h2.mono le8).mono hle))
  · intro l R10q hle ha hd
    obtain ⟨d0, d1, _⟩ := hd
    have f17g : phG (true && (((decide (e ≠ 0)) || (!(y9.getD default))) == false)) (phP (tSl true (tSl true kEdge)) m.rows) (l 17) R10q := d0 rfl
    exact gstep_guard (Gj := true) (Bj := (decide (e ≠ 0)) || (!(y9.getD default))) rfl rfl rfl (gtrue (d1 rfl)) rfl (fun hG hB => ph_loadR ty25 rfl (f17g.1 (gandT rfl hB)))
  · intro l R11q hle ha hd
    obtain ⟨d0, d1, _⟩ := hd
    have f18g : phG (true && (((decide (e ≠ 0)) || (!(y9.getD default))) == false)) (phR (tSl true (tSl true kEdge)) m.rows) (l 18) R11q := d0 rfl
    exact gstep_guard (Gj := true) (Bj := (decide (e ≠ 0)) || (!(y9.getD default))) rfl rfl rfl (gtrue (d1 rfl)) rfl (fun hG hB => ph_val (val_capT rfl Try.underlying25 rfl (f18g.1 (gandT rfl hB))))
  · intro l R12q hle ha hd
    obtain ⟨d0, _⟩ := hd
    have a3 : l 3 = v1 := ha 3 rfl
    exact gstep_guard (Gj := true) (Bj := (decide (e ≠ 0)) || (!(y9.getD default))) rfl rfl rfl (gtrue (d0 rfl)) rfl (fun hG hB => ph_fieldR fd27_2 pt_Mach2 a3 ((h2.mono le8).mono hle))
  · intro l R13q hle ha hd
    obtain ⟨d0, d1, _⟩ := hd
    have f20g : phG (true && (((decide (e ≠ 0)) || (!(y9.getD default))) == false)) (phP (tSl true (tSl true kEdge)) m.rows) (l 20) R13q := d0 rfl
    exact gstep_guard (Gj := true) (Bj := (decide (e ≠ 0)) || (!(y9.getD default))) rfl rfl rfl (gtrue (d1 rfl)) rfl (fun hG hB => ph_loadR ty25 rfl (f20g.1 (gandT rfl hB)))
  · intro l R14q hle ha hd
    obtain ⟨d0, d1, _⟩ := hd
    have f21g : phG (true && (((decide (e ≠ 0)) || (!(y9.getD default))) == false)) (phR (tSl true (tSl true kEdge)) m.rows) (l 21) R14q := d0 rfl
    exact gstep_guard (Gj := true) (Bj := (decide (e ≠ 0)) || (!(y9.getD default))) rfl rfl rfl (gtrue (d1 rfl)) rfl (fun hG hB => ph_val (val_lenR rfl Try.underlying25 rfl (sl_s (f21g.1 (gandT rfl hB)))))
  · intro l R15q hle ha hd
    obtain ⟨d0, d1, d2, _⟩ := hd
    have f19g : phG (true && (((decide (e ≠ 0)) || (!(y9.getD default))) == false)) (phX (.int .i64 (↑m.rows.length : Int))) (l 19) R15q := d0 rfl
    have f22g : phG (true && (((decide (e ≠ 0)) || (!(y9.getD default))) == false)) (phX (.int .i64 (↑m.rows.length : Int))) (l 22) R15q := d1 rfl
    exact gstep_guard (Gj := true) (Bj := (decide (e ≠ 0)) || (!(y9.getD default))) rfl rfl rfl (gtrue (d2 rfl)) rfl (fun hG hB => ph_val (val_neq (show l 19 = (.int .i64 (↑m.rows.length : Int)) from f19g.1 (gandT rfl hB)) (show l 22 = (.int .i64 (↑m.rows.length : Int)) from f22g.1 (gandT rfl hB))))
  · intro l R16q hle ha hd
    obtain ⟨d0, d1, _⟩ := hd
    have f16 : l 16 = (.bool ((decide (e ≠ 0)) || (!(y9.getD default)))) := d0 rfl
    have f23g : phG (true && (((decide (e ≠ 0)) || (!(y9.getD default))) == false)) (phX (.bool (decide ((↑m.rows.length : Int) ≠ (↑m.rows.length : Int))))) (l 23) R16q := d1 rfl
    exact gstep_plain rfl rfl rfl (ph_val (val_or f16 rfl (fun hb => (show l 23 = (.bool (decide ((↑m.rows.length : Int) ≠ (↑m.rows.length : Int)))) from f23g.1 (gandT rfl hb)))))
  intro v13 h14
  intro v15 h16
  intro v17 h18
  intro v19 h20
  intro v21 h22
  intro v23 h24
  intro v25 h26
  intro v27 h28
  intro v29 h30
  intro v31 h32
  intro v33 h34
  intro v35 h36
  intro v37 h38
  intro v39 h40
  intro v41 h42
  intro v43 h44
  intro v45 h46
  obtain rfl := Eq.symm h14
  obtain rfl := Eq.symm h16
  obtain rfl := Eq.symm h18
  obtain rfl := Eq.symm h28
  obtain rfl := Eq.symm h30
  obtain rfl := Eq.symm h46
  refine wo_nil ?_
  refine wg_cond rfl (fun e47 => ?_) (fun e47 => ?_)
  · replace hd0 := sel_t e47 hd0; clear e47
    refine wg_seq ?_
    refine wg_region ?_
    refine wo_v rfl (val_assign (v := (.bool false)) rfl) ?_
    refine wo_nil ?_
    refine wg_ret ?_
    obtain rfl := Option.some.inj hd0
    refine body_end (D := []) (J := []) (rs := [.tmp 6]) (vs := [(.bool false)]) ((le4.trans le8).trans le12) rfl rfl ⟨rfl, trivial⟩ ?_
    exact ⟨rfl, rfl⟩
  · replace hd0 := sel_f e47 hd0; clear e47
    refine wg_skip ?_
    replace hd0 := bd_some hd0; obtain ⟨q49, hd1, hd0⟩ := hd0
    refine wg_meet (γ := Unit) true [7, 25, 26, 27, 28, 29, 32, 33, 34, 35, 36, 37, 38, 39, 40, 41, 42, 43, 44, 6, 30, 31] (fun g => []) (fun g => [] ++ A) (fun g R => q49 = Ex.go g ∧ True) ?_ ?_
    ·
      refine wg_seq ?_
      refine wg_region ?_
      refine wo_v rfl (val_assign (v := (.int .i64 0)) rfl) ?_
      refine wo_nil ?_
      refine wg_block ?_
      refine wg_loopS (γ := Nat × Int) true [25, 26, 27, 28, 29, 32, 33, 34, 35, 36, 37, 38, 39, 40, 41, 42, 43, 44, 6, 30, 31, 7] (fun g => [(7, (.int .i64 g.2))]) (fun g => [] ++ A) (fun g R => gauntletlaw06_machine_L1 N m g.1 g.2 = some q49 ∧ True) (fun g => g.1) (N, 0) ⟨rfl, trivial⟩ ⟨[], List.Perm.refl _⟩ ⟨hd1, trivial⟩ (fun _ => rfl) ?_
      clear hd1
      rintro ⟨F52, x53⟩ j93 D94 R54 hD95 le55 ⟨hd1, _⟩
      obtain rfl := hD95 rfl
      rcases F52 with _ | F52
      · exact none_elim hd1
      replace hd1 : gauntletlaw06_machine_L1 N m (F52 + 1) x53 = some q49 := hd1; rw [gauntletlaw06_machine_L1] at hd1
      refine wg_seq ?_
      refine wg_seq ?_
      refine wg_region ?_
      refine wo_v rfl (val_move (v := (.int .i64 x53)) rfl) ?_
      refine wo_fieldR rfl fd27_2 pt_Mach2 rfl (h2.mono ((le8.trans le12).trans le55)) fun v56 h57 => ?_
      refine wo_loadR rfl ty25 rfl h57 fun v58 h59 => ?_
      refine wo_v rfl (val_lenR rfl Try.underlying25 rfl (sl_s h59)) ?_
      refine wo_v rfl (val_lss rfl rfl) ?_
      refine wo_nil ?_
      refine wg_cond rfl (fun e60 => ?_) (fun e60 => ?_)
      · replace hd1 := sel_t e60 hd1; clear e60
        refine wg_skip ?_
        refine wg_seq ?_
        refine wg_block ?_
        refine wg_seq ?_
        have g61 := (gd_some hd1).1; replace hd1 := (gd_some hd1).2
        have g62 := (gd_some hd1).1; replace hd1 := (gd_some hd1).2
        refine wg_drawn 13 [] [phP (tSl true (tSl true kEdge)) m.rows, phR (tSl true (tSl true kEdge)) m.rows, phX (.int .i64 x53), phP (tSl true kEdge) (ix m.rows x53), phR (tSl true kEdge) (ix m.rows x53), phX (.int .i64 (↑(ix m.rows x53).length : Int)), phP (tSl true (tSl true kEdge)) m.rows, phR (tSl true (tSl true kEdge)) m.rows, phX (.int .i64 x53), phP (tSl true kEdge) (ix m.rows x53), phR (tSl true kEdge) (ix m.rows x53), phX (.int .i64 (↑(ix m.rows x53).length : Int)), phX (.bool (decide ((↑(ix m.rows x53).length : Int) ≠ (↑(ix m.rows x53).length : Int))))] mixed (by kernel_rfl) (monoOk_of ⟨mono_p, mono_r, mono_x, mono_p, mono_r, mono_x, mono_p, mono_r, mono_x, mono_p, mono_r, mono_x, mono_x, trivial⟩) ⟨?_, ?_, ?_, ?_, ?_, ?_, ?_, ?_, ?_, ?_, ?_, ?_, ?_, trivial⟩ fun R63 le64 => ?_
        · intro l R0q hle ha hd
          have a3 : l 3 = v1 := ha 3 rfl
          exact gstep_plain rfl rfl rfl (ph_fieldR fd27_2 pt_Mach2 a3 ((h2.mono ((le8.trans le12).trans le55)).mono hle))
        · intro l R1q hle ha hd
          obtain ⟨d0, _⟩ := hd
          have f32 : phP (tSl true (tSl true kEdge)) m.rows (l 32) R1q := d0 rfl
          exact gstep_plain rfl rfl rfl (ph_loadR ty25 rfl f32)
        · intro l R2q hle ha hd
          have a7 : l 7 = (.int .i64 x53) := ha 7 rfl
          exact gstep_plain rfl rfl rfl (ph_val (val_move a7))
        · intro l R3q hle ha hd
          obtain ⟨d0, d1, _⟩ := hd
          have f33 : phR (tSl true (tSl true kEdge)) m.rows (l 33) R3q := d0 rfl
          have f34 : l 34 = (.int .i64 x53) := d1 rfl
          exact gstep_plain rfl rfl rfl (ph_indexR (i := x53.toNat) sl25 rfl (sl_s f33) (idx_nonneg f34 g61.1) (okI_lt g61))
        · intro l R4q hle ha hd
          obtain ⟨d0, _⟩ := hd
          have f35 : phP (tSl true kEdge) (ix m.rows x53) (l 35) R4q := d0 rfl
          exact gstep_plain rfl rfl rfl (ph_loadR ty50 rfl f35)
        · intro l R5q hle ha hd
          obtain ⟨d0, _⟩ := hd
          have f36 : phR (tSl true kEdge) (ix m.rows x53) (l 36) R5q := d0 rfl
          exact gstep_plain rfl rfl rfl (ph_val (val_capT rfl Try.underlying50 rfl f36))
        · intro l R6q hle ha hd
          have a3 : l 3 = v1 := ha 3 rfl
          exact gstep_plain rfl rfl rfl (ph_fieldR fd27_2 pt_Mach2 a3 ((h2.mono ((le8.trans le12).trans le55)).mono hle))
        · intro l R7q hle ha hd
          obtain ⟨d0, _⟩ := hd
          have f38 : phP (tSl true (tSl true kEdge)) m.rows (l 38) R7q := d0 rfl
          exact gstep_plain rfl rfl rfl (ph_loadR ty25 rfl f38)
        · intro l R8q hle ha hd
          have a7 : l 7 = (.int .i64 x53) := ha 7 rfl
          exact gstep_plain rfl rfl rfl (ph_val (val_move a7))
        · intro l R9q hle ha hd
          obtain ⟨d0, d1, _⟩ := hd
          have f39 : phR (tSl true (tSl true kEdge)) m.rows (l 39) R9q := d0 rfl
          have f40 : l 40 = (.int .i64 x53) := d1 rfl
          exact gstep_plain rfl rfl rfl (ph_indexR (i := x53.toNat) sl25 rfl (sl_s f39) (idx_nonneg f40 g62.1) (okI_lt g62))
        · intro l R10q hle ha hd
          obtain ⟨d0, _⟩ := hd
          have f41 : phP (tSl true kEdge) (ix m.rows x53) (l 41) R10q := d0 rfl
          exact gstep_plain rfl rfl rfl (ph_loadR ty50 rfl f41)
        · intro l R11q hle ha hd
          obtain ⟨d0, _⟩ := hd
          have f42 : phR (tSl true kEdge) (ix m.rows x53) (l 42) R11q := d0 rfl
          exact gstep_plain rfl rfl rfl (ph_val (val_lenR rfl Try.underlying50 rfl (sl_s f42)))
        · intro l R12q hle ha hd
          obtain ⟨d0, d1, _⟩ := hd
          have f37 : l 37 = (.int .i64 (↑(ix m.rows x53).length : Int)) := d0 rfl
          have f43 : l 43 = (.int .i64 (↑(ix m.rows x53).length : Int)) := d1 rfl
          exact gstep_plain rfl rfl rfl (ph_val (val_neq f37 f43))
        intro v65 h66
        intro v67 h68
        intro v69 h70
        intro v71 h72
        intro v73 h74
        intro v75 h76
        intro v77 h78
        intro v79 h80
        intro v81 h82
        intro v83 h84
        intro v85 h86
        intro v87 h88
        intro v89 h90
        obtain rfl := Eq.symm h70
        obtain rfl := Eq.symm h76
        obtain rfl := Eq.symm h82
        obtain rfl := Eq.symm h88
        obtain rfl := Eq.symm h90
        refine wo_nil ?_
        refine wg_cond rfl (fun e91 => ?_) (fun e91 => ?_)
        · replace hd1 := sel_t e91 hd1; clear e91
          refine wg_seq ?_
          refine wg_region ?_
          refine wo_v rfl (val_assign (v := (.bool false)) rfl) ?_
          refine wo_nil ?_
          refine wg_ret ?_
          replace hd0 := on_rt hd1 hd0
          obtain rfl := Option.some.inj hd0
          refine body_end (D := []) (J := []) (rs := [.tmp 6]) (vs := [(.bool false)]) ((((le4.trans le8).trans le12).trans le55).trans le64) rfl rfl ⟨rfl, trivial⟩ ?_
          exact ⟨rfl, rfl⟩
        · replace hd1 := sel_f e91 hd1; clear e91
          refine wg_skip ?_
          refine wg_region ?_
          refine wo_v rfl (val_move (v := (.int .i64 x53)) rfl) ?_
          have g92 := (gd_some hd1).1; replace hd1 := (gd_some hd1).2
          refine wo_v rfl (val_add rfl rfl g92) ?_
          refine wo_v rfl (val_assign (v := (.int .i64 (x53 + 1))) rfl) ?_
          refine wo_nil ?_
          exact ⟨(fun _ => rfl), le64, (by repeat (first | exact off_self | refine off_upd rfl ?_ | refine off_setl rfl ?_ | refine off_mask_sub rfl ?_)), (F52, x53 + 1), Nat.lt_succ_self _, ⟨rfl, trivial⟩, ⟨[], List.Perm.refl _⟩, hd1, trivial⟩
      · replace hd1 := sel_f e60 hd1; clear e60
        refine wg_exit ?_
        exact ⟨(fun _ => rfl), le55, (by repeat (first | exact off_self | refine off_upd rfl ?_ | refine off_setl rfl ?_ | refine off_mask_sub rfl ?_)), (), trivial, ⟨[], List.Perm.refl _⟩, (Option.some.inj hd1).symm, trivial⟩
    ·
      rintro o48 j96 D97 R50 hD98 le51 ⟨rfl, _⟩
      obtain rfl := hD98 rfl
      replace hd0 := on_go hd0
      refine wg_seq ?_
      refine wg_region ?_
      refine wo_v rfl (val_assign (v := (.bool true)) rfl) ?_
      refine wo_nil ?_
      refine wg_ret ?_
      obtain rfl := Option.some.inj hd0
      refine body_end (D := []) (J := []) (rs := [.tmp 6]) (vs := [(.bool true)]) (((le4.trans le8).trans le12).trans le51) rfl rfl ⟨rfl, trivial⟩ ?_
      exact ⟨rfl, rfl⟩
theorem en24 : Enters Try.prog 24 := enters_of Try.func24 rfl (by kernel_rfl)
theorem c_gauntletlaw06_lives {N : Nat} {R : RH}  {r : Bool} (hd0 : gauntletlaw06_lives N  = some r) : CallP Try.prog 18 #[] R (fun v R' => v = (.bool r)) := by
  refine callP_of_wg (args := []) Try.func18 rfl rfl fun A => ?_
  rw [gauntletlaw06_lives] at hd0
  refine wg_seq ?_
  refine wg_region ?_
  refine wo_v rfl (val_assign (v := (.bool false)) rfl) ?_
  refine wo_nil ?_
  refine wg_seq ?_
  refine wg_region ?_
  replace hd0 := bd_some hd0; obtain ⟨y1, c2, hd0⟩ := hd0
  refine wo_callP rfl en36 rfl (c_gauntletlaw06_edge  c2) fun v3 R5 le6 h4 => ?_
  obtain rfl := h4
  replace hd0 := bd_some hd0; obtain ⟨y7, c8, hd0⟩ := hd0
  refine wo_callP rfl en36 rfl (c_gauntletlaw06_edge  c8) fun v9 R11 le12 h10 => ?_
  obtain rfl := h10
  refine wo_lit (T := kEdge) (X := ([(⟨y1.to, y1.out⟩ : Edge), (⟨y7.to, y7.out⟩ : Edge)] : List Edge)) (ps := [(0, (enc_Edge y1)), (1, (enc_Edge y7))]) (css := [[(.int .i64 y1.to), (.int .i64 y1.out)], [(.int .i64 y7.to), (.int .i64 y7.out)]]) rfl Try.underlying50 zo49 rfl rfl (lit_reps ⟨⟨_, _, rfl, rfl, rfl⟩, ⟨_, _, rfl, rfl, rfl⟩, trivial⟩) rfl rfl (by decide) fun v13 f14 cap15 h16 => ?_
  replace hd0 := bd_some hd0; obtain ⟨y18, c19, hd0⟩ := hd0
  refine wo_callP rfl en36 rfl (c_gauntletlaw06_edge  c19) fun v20 R22 le23 h21 => ?_
  obtain rfl := h21
  replace hd0 := bd_some hd0; obtain ⟨y24, c25, hd0⟩ := hd0
  refine wo_callP rfl en36 rfl (c_gauntletlaw06_edge  c25) fun v26 R28 le29 h27 => ?_
  obtain rfl := h27
  refine wo_lit (T := kEdge) (X := ([(⟨y18.to, y18.out⟩ : Edge), (⟨y24.to, y24.out⟩ : Edge)] : List Edge)) (ps := [(0, (enc_Edge y18)), (1, (enc_Edge y24))]) (css := [[(.int .i64 y18.to), (.int .i64 y18.out)], [(.int .i64 y24.to), (.int .i64 y24.out)]]) rfl Try.underlying50 zo49 rfl rfl (lit_reps ⟨⟨_, _, rfl, rfl, rfl⟩, ⟨_, _, rfl, rfl, rfl⟩, trivial⟩) rfl rfl (by decide) fun v30 f31 cap32 h33 => ?_
  replace hd0 := bd_some hd0; obtain ⟨y35, c36, hd0⟩ := hd0
  refine wo_callP rfl en36 rfl (c_gauntletlaw06_edge  c36) fun v37 R39 le40 h38 => ?_
  obtain rfl := h38
  replace hd0 := bd_some hd0; obtain ⟨y41, c42, hd0⟩ := hd0
  refine wo_callP rfl en36 rfl (c_gauntletlaw06_edge  c42) fun v43 R45 le46 h44 => ?_
  obtain rfl := h44
  refine wo_lit (T := kEdge) (X := ([(⟨y35.to, y35.out⟩ : Edge), (⟨y41.to, y41.out⟩ : Edge)] : List Edge)) (ps := [(0, (enc_Edge y35)), (1, (enc_Edge y41))]) (css := [[(.int .i64 y35.to), (.int .i64 y35.out)], [(.int .i64 y41.to), (.int .i64 y41.out)]]) rfl Try.underlying50 zo49 rfl rfl (lit_reps ⟨⟨_, _, rfl, rfl, rfl⟩, ⟨_, _, rfl, rfl, rfl⟩, trivial⟩) rfl rfl (by decide) fun v47 f48 cap49 h50 => ?_
  replace hd0 := bd_some hd0; obtain ⟨y52, c53, hd0⟩ := hd0
  refine wo_callP rfl en36 rfl (c_gauntletlaw06_edge  c53) fun v54 R56 le57 h55 => ?_
  obtain rfl := h55
  replace hd0 := bd_some hd0; obtain ⟨y58, c59, hd0⟩ := hd0
  refine wo_callP rfl en36 rfl (c_gauntletlaw06_edge  c59) fun v60 R62 le63 h61 => ?_
  obtain rfl := h61
  refine wo_lit (T := kEdge) (X := ([(⟨y52.to, y52.out⟩ : Edge), (⟨y58.to, y58.out⟩ : Edge)] : List Edge)) (ps := [(0, (enc_Edge y52)), (1, (enc_Edge y58))]) (css := [[(.int .i64 y52.to), (.int .i64 y52.out)], [(.int .i64 y58.to), (.int .i64 y58.out)]]) rfl Try.underlying50 zo49 rfl rfl (lit_reps ⟨⟨_, _, rfl, rfl, rfl⟩, ⟨_, _, rfl, rfl, rfl⟩, trivial⟩) rfl rfl (by decide) fun v64 f65 cap66 h67 => ?_
  refine wo_freeze (i := 3) rfl (h16.mono (((((le23.trans le29).trans le40).trans le46).trans le57).trans le63)) fun R69 le70 h71 => ?_
  have h72 : VRep (tSl true kEdge) R69 v13 ([(⟨y1.to, y1.out⟩ : Edge), (⟨y7.to, y7.out⟩ : Edge)] : List Edge) := (sl_t h71 cap15)
  refine wo_freeze (i := 2) rfl (h33.mono ((((le40.trans le46).trans le57).trans le63).trans le70)) fun R73 le74 h75 => ?_
  have h76 : VRep (tSl true kEdge) R73 v30 ([(⟨y18.to, y18.out⟩ : Edge), (⟨y24.to, y24.out⟩ : Edge)] : List Edge) := (sl_t h75 cap32)
  refine wo_freeze (i := 1) rfl (h50.mono (((le57.trans le63).trans le70).trans le74)) fun R77 le78 h79 => ?_
  have h80 : VRep (tSl true kEdge) R77 v47 ([(⟨y35.to, y35.out⟩ : Edge), (⟨y41.to, y41.out⟩ : Edge)] : List Edge) := (sl_t h79 cap49)
  refine wo_freeze (i := 0) rfl (h67.mono ((le70.trans le74).trans le78)) fun R81 le82 h83 => ?_
  have h84 : VRep (tSl true kEdge) R81 v64 ([(⟨y52.to, y52.out⟩ : Edge), (⟨y58.to, y58.out⟩ : Edge)] : List Edge) := (sl_t h83 cap66)
  refine wo_lit (T := (tSl true kEdge)) (X := ([([(⟨y1.to, y1.out⟩ : Edge), (⟨y7.to, y7.out⟩ : Edge)] : List Edge), ([(⟨y18.to, y18.out⟩ : Edge), (⟨y24.to, y24.out⟩ : Edge)] : List Edge), ([(⟨y35.to, y35.out⟩ : Edge), (⟨y41.to, y41.out⟩ : Edge)] : List Edge), ([(⟨y52.to, y52.out⟩ : Edge), (⟨y58.to, y58.out⟩ : Edge)] : List Edge)] : List (List Edge))) (ps := [(0, v13), (1, v30), (2, v47), (3, v64)]) (css := [[v13], [v30], [v47], [v64]]) rfl Try.underlying25 zo50 rfl (by simp only [List.map_cons, List.map_nil, sl_cells (h72.mono ((le74.trans le78).trans le82)), sl_cells (h76.mono (le78.trans le82)), sl_cells (h80.mono le82), sl_cells h84]; rfl) (lit_reps ⟨(rep_one rfl (h72.mono ((le74.trans le78).trans le82))), (rep_one rfl (h76.mono (le78.trans le82))), (rep_one rfl (h80.mono le82)), (rep_one rfl h84), trivial⟩) rfl rfl (by decide) fun v85 f86 cap87 h88 => ?_
  refine wo_v rfl (val_buildC [(0, (.int .i64 2)), (1, (.int .i64 2)), (2, (.agg #[v85]))] (ps := [(0, (.int .i64 2)), (1, (.int .i64 2)), (2, v85)]) (v := (.agg #[(.int .i64 2), (.int .i64 2), v85])) rfl (by simp only [List.map_cons, List.map_nil, orep_cells h88]; rfl) (fun w => by kernel_rfl)) ?_
  refine wo_alloc rfl za27 fun b90 => ?_
  refine wo_store (i := 0) (vs := [(.int .i64 2), (.int .i64 2), v85]) sz27 rfl rfl rfl rfl rfl rfl (one_cons rfl (one_cons rfl (one_cons (orep_one h88) one_nil))) ?_
  refine wo_nil ?_
  refine wg_seq ?_
  refine wg_region ?_
  replace hd0 := bd_some hd0; obtain ⟨y92, c93, hd0⟩ := hd0
  refine wo_callP rfl en36 rfl (c_gauntletlaw06_edge  c93) fun v94 R96 le97 h95 => ?_
  obtain rfl := h95
  replace hd0 := bd_some hd0; obtain ⟨y98, c99, hd0⟩ := hd0
  refine wo_callP rfl en36 rfl (c_gauntletlaw06_edge  c99) fun v100 R102 le103 h101 => ?_
  obtain rfl := h101
  refine wo_lit (T := kEdge) (X := ([(⟨y92.to, y92.out⟩ : Edge), (⟨y98.to, y98.out⟩ : Edge)] : List Edge)) (ps := [(0, (enc_Edge y92)), (1, (enc_Edge y98))]) (css := [[(.int .i64 y92.to), (.int .i64 y92.out)], [(.int .i64 y98.to), (.int .i64 y98.out)]]) rfl Try.underlying50 zo49 rfl rfl (lit_reps ⟨⟨_, _, rfl, rfl, rfl⟩, ⟨_, _, rfl, rfl, rfl⟩, trivial⟩) rfl rfl (by decide) fun v104 f105 cap106 h107 => ?_
  replace hd0 := bd_some hd0; obtain ⟨y109, c110, hd0⟩ := hd0
  refine wo_callP rfl en36 rfl (c_gauntletlaw06_edge  c110) fun v111 R113 le114 h112 => ?_
  obtain rfl := h112
  replace hd0 := bd_some hd0; obtain ⟨y115, c116, hd0⟩ := hd0
  refine wo_callP rfl en36 rfl (c_gauntletlaw06_edge  c116) fun v117 R119 le120 h118 => ?_
  obtain rfl := h118
  refine wo_lit (T := kEdge) (X := ([(⟨y109.to, y109.out⟩ : Edge), (⟨y115.to, y115.out⟩ : Edge)] : List Edge)) (ps := [(0, (enc_Edge y109)), (1, (enc_Edge y115))]) (css := [[(.int .i64 y109.to), (.int .i64 y109.out)], [(.int .i64 y115.to), (.int .i64 y115.out)]]) rfl Try.underlying50 zo49 rfl rfl (lit_reps ⟨⟨_, _, rfl, rfl, rfl⟩, ⟨_, _, rfl, rfl, rfl⟩, trivial⟩) rfl rfl (by decide) fun v121 f122 cap123 h124 => ?_
  replace hd0 := bd_some hd0; obtain ⟨y126, c127, hd0⟩ := hd0
  refine wo_callP rfl en36 rfl (c_gauntletlaw06_edge  c127) fun v128 R130 le131 h129 => ?_
  obtain rfl := h129
  replace hd0 := bd_some hd0; obtain ⟨y132, c133, hd0⟩ := hd0
  refine wo_callP rfl en36 rfl (c_gauntletlaw06_edge  c133) fun v134 R136 le137 h135 => ?_
  obtain rfl := h135
  refine wo_lit (T := kEdge) (X := ([(⟨y126.to, y126.out⟩ : Edge), (⟨y132.to, y132.out⟩ : Edge)] : List Edge)) (ps := [(0, (enc_Edge y126)), (1, (enc_Edge y132))]) (css := [[(.int .i64 y126.to), (.int .i64 y126.out)], [(.int .i64 y132.to), (.int .i64 y132.out)]]) rfl Try.underlying50 zo49 rfl rfl (lit_reps ⟨⟨_, _, rfl, rfl, rfl⟩, ⟨_, _, rfl, rfl, rfl⟩, trivial⟩) rfl rfl (by decide) fun v138 f139 cap140 h141 => ?_
  refine wo_freeze (i := 2) rfl (h107.mono (((le114.trans le120).trans le131).trans le137)) fun R143 le144 h145 => ?_
  have h146 : VRep (tSl true kEdge) R143 v104 ([(⟨y92.to, y92.out⟩ : Edge), (⟨y98.to, y98.out⟩ : Edge)] : List Edge) := (sl_t h145 cap106)
  refine wo_freeze (i := 1) rfl (h124.mono ((le131.trans le137).trans le144)) fun R147 le148 h149 => ?_
  have h150 : VRep (tSl true kEdge) R147 v121 ([(⟨y109.to, y109.out⟩ : Edge), (⟨y115.to, y115.out⟩ : Edge)] : List Edge) := (sl_t h149 cap123)
  refine wo_freeze (i := 0) rfl (h141.mono (le144.trans le148)) fun R151 le152 h153 => ?_
  have h154 : VRep (tSl true kEdge) R151 v138 ([(⟨y126.to, y126.out⟩ : Edge), (⟨y132.to, y132.out⟩ : Edge)] : List Edge) := (sl_t h153 cap140)
  refine wo_lit (T := (tSl true kEdge)) (X := ([([(⟨y92.to, y92.out⟩ : Edge), (⟨y98.to, y98.out⟩ : Edge)] : List Edge), ([(⟨y109.to, y109.out⟩ : Edge), (⟨y115.to, y115.out⟩ : Edge)] : List Edge), ([(⟨y126.to, y126.out⟩ : Edge), (⟨y132.to, y132.out⟩ : Edge)] : List Edge)] : List (List Edge))) (ps := [(0, v104), (1, v121), (2, v138)]) (css := [[v104], [v121], [v138]]) rfl Try.underlying25 zo50 rfl (by simp only [List.map_cons, List.map_nil, sl_cells (h146.mono (le148.trans le152)), sl_cells (h150.mono le152), sl_cells h154]; rfl) (lit_reps ⟨(rep_one rfl (h146.mono (le148.trans le152))), (rep_one rfl (h150.mono le152)), (rep_one rfl h154), trivial⟩) rfl rfl (by decide) fun v155 f156 cap157 h158 => ?_
  refine wo_v rfl (val_buildC [(0, (.int .i64 2)), (1, (.int .i64 2)), (2, (.agg #[v155]))] (ps := [(0, (.int .i64 2)), (1, (.int .i64 2)), (2, v155)]) (v := (.agg #[(.int .i64 2), (.int .i64 2), v155])) rfl (by simp only [List.map_cons, List.map_nil, orep_cells h158]; rfl) (fun w => by kernel_rfl)) ?_
  refine wo_alloc rfl za27 fun b160 => ?_
  refine wo_store (i := 0) (vs := [(.int .i64 2), (.int .i64 2), v155]) sz27 rfl rfl rfl rfl rfl rfl (one_cons rfl (one_cons rfl (one_cons (orep_one h158) one_nil))) ?_
  refine wo_nil ?_
  refine wg_seq ?_
  refine wg_region ?_
  refine wo_v rfl (val_loadBA (i := 2) ag27 sz27 rfl rfl rfl rfl) ?_
  refine wo_freeze (i := 3) rfl (h88.mono ((((((((le97.trans le103).trans le114).trans le120).trans le131).trans le137).trans le144).trans le148).trans le152)) fun R162 le163 h164 => ?_
  have h165 : VRep (tSl true (tSl true kEdge)) R162 v85 ([([(⟨y1.to, y1.out⟩ : Edge), (⟨y7.to, y7.out⟩ : Edge)] : List Edge), ([(⟨y18.to, y18.out⟩ : Edge), (⟨y24.to, y24.out⟩ : Edge)] : List Edge), ([(⟨y35.to, y35.out⟩ : Edge), (⟨y41.to, y41.out⟩ : Edge)] : List Edge), ([(⟨y52.to, y52.out⟩ : Edge), (⟨y58.to, y58.out⟩ : Edge)] : List Edge)] : List (List Edge)) := (sl_t h164 cap87)
  replace hd0 := bd_some hd0; obtain ⟨y166, c167, hd0⟩ := hd0
  refine wo_callP rfl en17 rfl (c_walks_Reach (⟨_, ⟨_, _, rfl, rfl, ⟨_, _, rfl, rfl, (rep_one rfl (Sub.v (B := (tSl false (tSl false kEdge))) (sub_sl (sub_sl Sub.refl (fun _ => rfl)) (fun _ => rfl)) h165))⟩⟩, rfl⟩ : VRep (kMach false false) _ _ (⟨2, 2, ([([(⟨y1.to, y1.out⟩ : Edge), (⟨y7.to, y7.out⟩ : Edge)] : List Edge), ([(⟨y18.to, y18.out⟩ : Edge), (⟨y24.to, y24.out⟩ : Edge)] : List Edge), ([(⟨y35.to, y35.out⟩ : Edge), (⟨y41.to, y41.out⟩ : Edge)] : List Edge), ([(⟨y52.to, y52.out⟩ : Edge), (⟨y58.to, y58.out⟩ : Edge)] : List Edge)] : List (List Edge))⟩ : Mach)) c167) fun v168 R170 le171 h169 => ?_
  obtain ⟨v172, rfl, h173⟩ := h169
  refine wo_v rfl (val_move (v := (.tuple #[v172, (.int .i64 y166.2)])) rfl) ?_
  refine wo_v rfl (val_extract rfl rfl) ?_
  refine wo_v rfl (val_extract rfl rfl) ?_
  refine wo_v rfl (val_assign (v := v172) rfl) ?_
  refine wo_v rfl (val_assign (v := (.int .i64 y166.2)) rfl) ?_
  refine wo_nil ?_
  refine wg_seq ?_
  refine wg_region ?_
  refine wo_v rfl (val_loadBA (i := 2) ag27 sz27 rfl rfl rfl rfl) ?_
  replace hd0 := bd_some hd0; obtain ⟨y174, c175, hd0⟩ := hd0
  refine wo_callP rfl en12 rfl (c_walks_Access (⟨_, ⟨_, _, rfl, rfl, ⟨_, _, rfl, rfl, (rep_one rfl (Sub.v (B := (tSl false (tSl false kEdge))) (sub_sl (sub_sl Sub.refl (fun _ => rfl)) (fun _ => rfl)) (h165.mono le171)))⟩⟩, rfl⟩ : VRep (kMach false false) _ _ (⟨2, 2, ([([(⟨y1.to, y1.out⟩ : Edge), (⟨y7.to, y7.out⟩ : Edge)] : List Edge), ([(⟨y18.to, y18.out⟩ : Edge), (⟨y24.to, y24.out⟩ : Edge)] : List Edge), ([(⟨y35.to, y35.out⟩ : Edge), (⟨y41.to, y41.out⟩ : Edge)] : List Edge), ([(⟨y52.to, y52.out⟩ : Edge), (⟨y58.to, y58.out⟩ : Edge)] : List Edge)] : List (List Edge))⟩ : Mach)) c175) fun v176 R178 le179 h177 => ?_
  obtain ⟨v180, v182, rfl, h181, h183⟩ := h177
  refine wo_v rfl (val_move (v := (.tuple #[v180, v182, (.int .i64 y174.2.2)])) rfl) ?_
  refine wo_v rfl (val_extract rfl rfl) ?_
  refine wo_v rfl (val_extract rfl rfl) ?_
  refine wo_v rfl (val_extract rfl rfl) ?_
  refine wo_v rfl (val_assign (v := v180) rfl) ?_
  refine wo_v rfl (val_assign (v := v182) rfl) ?_
  refine wo_v rfl (val_assign (v := (.int .i64 y174.2.2)) rfl) ?_
  refine wo_nil ?_
  refine wg_seq ?_
  refine wg_seq ?_
  replace hd0 := bd_some hd0; obtain ⟨y184, c185, hd0⟩ := hd0
  have g186 := (gd_some hd0).1; replace hd0 := (gd_some hd0).2
  have g187 := (gd_some hd0).1; replace hd0 := (gd_some hd0).2
  have g188 := (gd_some hd0).1; replace hd0 := (gd_some hd0).2
  have g189 := (gd_some hd0).1; replace hd0 := (gd_some hd0).2
  have g190 := (gd_some hd0).1; replace hd0 := (gd_some hd0).2
  replace hd0 := bd_some hd0; obtain ⟨y191, c192, hd0⟩ := hd0
  have g193 := (gd_some hd0).1; replace hd0 := (gd_some hd0).2
  replace hd0 := bd_some hd0; obtain ⟨y194, c195, hd0⟩ := hd0
  have g196 := (gd_some hd0).1; replace hd0 := (gd_some hd0).2
  replace hd0 := bd_some hd0; obtain ⟨y197, c198, hd0⟩ := hd0
  have g199 := (gd_some hd0).1; replace hd0 := (gd_some hd0).2
  replace hd0 := bd_some hd0; obtain ⟨y200, c201, hd0⟩ := hd0
  refine wg_guarded 72 [] [phX v172, phX (.int .i64 y166.2), phR (tSl true (tInt .i64)) ([0, 2, 3] : List Int), phX (.bool y184), phX (.bool (!y184)), phX (.bool (!y184)), phG (true && ((!y184) == false)) (phX (.int .i64 y174.2.2)), phG (true && ((!y184) == false)) (phX (.bool (decide (y174.2.2 ≠ 0)))), phX (.bool ((!y184) || (decide (y174.2.2 ≠ 0)))), phX (.bool ((!y184) || (decide (y174.2.2 ≠ 0)))), phG (true && (((!y184) || (decide (y174.2.2 ≠ 0))) == false)) (phX v180), phG (true && (((!y184) || (decide (y174.2.2 ≠ 0))) == false)) (phX (.int .i64 (↑y174.1.length : Int))), phG (true && (((!y184) || (decide (y174.2.2 ≠ 0))) == false)) (phX (.bool (decide ((↑y174.1.length : Int) ≠ 4)))), phX (.bool (((!y184) || (decide (y174.2.2 ≠ 0))) || (decide ((↑y174.1.length : Int) ≠ 4)))), phX (.bool (((!y184) || (decide (y174.2.2 ≠ 0))) || (decide ((↑y174.1.length : Int) ≠ 4)))), phG (true && ((((!y184) || (decide (y174.2.2 ≠ 0))) || (decide ((↑y174.1.length : Int) ≠ 4))) == false)) (phX v182), phG (true && ((((!y184) || (decide (y174.2.2 ≠ 0))) || (decide ((↑y174.1.length : Int) ≠ 4))) == false)) (phX (.int .i64 (↑y174.2.1.length : Int))), phG (true && ((((!y184) || (decide (y174.2.2 ≠ 0))) || (decide ((↑y174.1.length : Int) ≠ 4))) == false)) (phX (.bool (decide ((↑y174.2.1.length : Int) ≠ 4)))), phX (.bool ((((!y184) || (decide (y174.2.2 ≠ 0))) || (decide ((↑y174.1.length : Int) ≠ 4))) || (decide ((↑y174.2.1.length : Int) ≠ 4)))), phX (.bool ((((!y184) || (decide (y174.2.2 ≠ 0))) || (decide ((↑y174.1.length : Int) ≠ 4))) || (decide ((↑y174.2.1.length : Int) ≠ 4)))), phG (true && (((((!y184) || (decide (y174.2.2 ≠ 0))) || (decide ((↑y174.1.length : Int) ≠ 4))) || (decide ((↑y174.2.1.length : Int) ≠ 4))) == false)) (phX v182), phG (true && (((((!y184) || (decide (y174.2.2 ≠ 0))) || (decide ((↑y174.1.length : Int) ≠ 4))) || (decide ((↑y174.2.1.length : Int) ≠ 4))) == false)) (phP tBool (ix y174.2.1 0)), phG (true && (((((!y184) || (decide (y174.2.2 ≠ 0))) || (decide ((↑y174.1.length : Int) ≠ 4))) || (decide ((↑y174.2.1.length : Int) ≠ 4))) == false)) (phX (.bool (ix y174.2.1 0))), phG (true && (((((!y184) || (decide (y174.2.2 ≠ 0))) || (decide ((↑y174.1.length : Int) ≠ 4))) || (decide ((↑y174.2.1.length : Int) ≠ 4))) == false)) (phX (.bool (!(ix y174.2.1 0)))), phX (.bool (((((!y184) || (decide (y174.2.2 ≠ 0))) || (decide ((↑y174.1.length : Int) ≠ 4))) || (decide ((↑y174.2.1.length : Int) ≠ 4))) || (!(ix y174.2.1 0)))), phX (.bool (((((!y184) || (decide (y174.2.2 ≠ 0))) || (decide ((↑y174.1.length : Int) ≠ 4))) || (decide ((↑y174.2.1.length : Int) ≠ 4))) || (!(ix y174.2.1 0)))), phG (true && ((((((!y184) || (decide (y174.2.2 ≠ 0))) || (decide ((↑y174.1.length : Int) ≠ 4))) || (decide ((↑y174.2.1.length : Int) ≠ 4))) || (!(ix y174.2.1 0))) == false)) (phX v182), phG (true && ((((((!y184) || (decide (y174.2.2 ≠ 0))) || (decide ((↑y174.1.length : Int) ≠ 4))) || (decide ((↑y174.2.1.length : Int) ≠ 4))) || (!(ix y174.2.1 0))) == false)) (phP tBool (ix y174.2.1 1)), phG (true && ((((((!y184) || (decide (y174.2.2 ≠ 0))) || (decide ((↑y174.1.length : Int) ≠ 4))) || (decide ((↑y174.2.1.length : Int) ≠ 4))) || (!(ix y174.2.1 0))) == false)) (phX (.bool (ix y174.2.1 1))), phX (.bool ((((((!y184) || (decide (y174.2.2 ≠ 0))) || (decide ((↑y174.1.length : Int) ≠ 4))) || (decide ((↑y174.2.1.length : Int) ≠ 4))) || (!(ix y174.2.1 0))) || (ix y174.2.1 1))), phX (.bool ((((((!y184) || (decide (y174.2.2 ≠ 0))) || (decide ((↑y174.1.length : Int) ≠ 4))) || (decide ((↑y174.2.1.length : Int) ≠ 4))) || (!(ix y174.2.1 0))) || (ix y174.2.1 1))), phG (true && (((((((!y184) || (decide (y174.2.2 ≠ 0))) || (decide ((↑y174.1.length : Int) ≠ 4))) || (decide ((↑y174.2.1.length : Int) ≠ 4))) || (!(ix y174.2.1 0))) || (ix y174.2.1 1)) == false)) (phX v182), phG (true && (((((((!y184) || (decide (y174.2.2 ≠ 0))) || (decide ((↑y174.1.length : Int) ≠ 4))) || (decide ((↑y174.2.1.length : Int) ≠ 4))) || (!(ix y174.2.1 0))) || (ix y174.2.1 1)) == false)) (phP tBool (ix y174.2.1 2)), phG (true && (((((((!y184) || (decide (y174.2.2 ≠ 0))) || (decide ((↑y174.1.length : Int) ≠ 4))) || (decide ((↑y174.2.1.length : Int) ≠ 4))) || (!(ix y174.2.1 0))) || (ix y174.2.1 1)) == false)) (phX (.bool (ix y174.2.1 2))), phG (true && (((((((!y184) || (decide (y174.2.2 ≠ 0))) || (decide ((↑y174.1.length : Int) ≠ 4))) || (decide ((↑y174.2.1.length : Int) ≠ 4))) || (!(ix y174.2.1 0))) || (ix y174.2.1 1)) == false)) (phX (.bool (!(ix y174.2.1 2)))), phX (.bool (((((((!y184) || (decide (y174.2.2 ≠ 0))) || (decide ((↑y174.1.length : Int) ≠ 4))) || (decide ((↑y174.2.1.length : Int) ≠ 4))) || (!(ix y174.2.1 0))) || (ix y174.2.1 1)) || (!(ix y174.2.1 2)))), phX (.bool (((((((!y184) || (decide (y174.2.2 ≠ 0))) || (decide ((↑y174.1.length : Int) ≠ 4))) || (decide ((↑y174.2.1.length : Int) ≠ 4))) || (!(ix y174.2.1 0))) || (ix y174.2.1 1)) || (!(ix y174.2.1 2)))), phG (true && ((((((((!y184) || (decide (y174.2.2 ≠ 0))) || (decide ((↑y174.1.length : Int) ≠ 4))) || (decide ((↑y174.2.1.length : Int) ≠ 4))) || (!(ix y174.2.1 0))) || (ix y174.2.1 1)) || (!(ix y174.2.1 2))) == false)) (phX v182), phG (true && ((((((((!y184) || (decide (y174.2.2 ≠ 0))) || (decide ((↑y174.1.length : Int) ≠ 4))) || (decide ((↑y174.2.1.length : Int) ≠ 4))) || (!(ix y174.2.1 0))) || (ix y174.2.1 1)) || (!(ix y174.2.1 2))) == false)) (phP tBool (ix y174.2.1 3)), phG (true && ((((((((!y184) || (decide (y174.2.2 ≠ 0))) || (decide ((↑y174.1.length : Int) ≠ 4))) || (decide ((↑y174.2.1.length : Int) ≠ 4))) || (!(ix y174.2.1 0))) || (ix y174.2.1 1)) || (!(ix y174.2.1 2))) == false)) (phX (.bool (ix y174.2.1 3))), phG (true && ((((((((!y184) || (decide (y174.2.2 ≠ 0))) || (decide ((↑y174.1.length : Int) ≠ 4))) || (decide ((↑y174.2.1.length : Int) ≠ 4))) || (!(ix y174.2.1 0))) || (ix y174.2.1 1)) || (!(ix y174.2.1 2))) == false)) (phX (.bool (!(ix y174.2.1 3)))), phX (.bool ((((((((!y184) || (decide (y174.2.2 ≠ 0))) || (decide ((↑y174.1.length : Int) ≠ 4))) || (decide ((↑y174.2.1.length : Int) ≠ 4))) || (!(ix y174.2.1 0))) || (ix y174.2.1 1)) || (!(ix y174.2.1 2))) || (!(ix y174.2.1 3)))), phX (.bool ((((((((!y184) || (decide (y174.2.2 ≠ 0))) || (decide ((↑y174.1.length : Int) ≠ 4))) || (decide ((↑y174.2.1.length : Int) ≠ 4))) || (!(ix y174.2.1 0))) || (ix y174.2.1 1)) || (!(ix y174.2.1 2))) || (!(ix y174.2.1 3)))), phG (true && (((((((((!y184) || (decide (y174.2.2 ≠ 0))) || (decide ((↑y174.1.length : Int) ≠ 4))) || (decide ((↑y174.2.1.length : Int) ≠ 4))) || (!(ix y174.2.1 0))) || (ix y174.2.1 1)) || (!(ix y174.2.1 2))) || (!(ix y174.2.1 3))) == false)) (phX v180), phG (true && (((((((((!y184) || (decide (y174.2.2 ≠ 0))) || (decide ((↑y174.1.length : Int) ≠ 4))) || (decide ((↑y174.2.1.length : Int) ≠ 4))) || (!(ix y174.2.1 0))) || (ix y174.2.1 1)) || (!(ix y174.2.1 2))) || (!(ix y174.2.1 3))) == false)) (phP (tSl true (tInt .i64)) (ix y174.1 0)), phG (true && (((((((((!y184) || (decide (y174.2.2 ≠ 0))) || (decide ((↑y174.1.length : Int) ≠ 4))) || (decide ((↑y174.2.1.length : Int) ≠ 4))) || (!(ix y174.2.1 0))) || (ix y174.2.1 1)) || (!(ix y174.2.1 2))) || (!(ix y174.2.1 3))) == false)) (phR (tSl true (tInt .i64)) (ix y174.1 0)), phG (true && (((((((((!y184) || (decide (y174.2.2 ≠ 0))) || (decide ((↑y174.1.length : Int) ≠ 4))) || (decide ((↑y174.2.1.length : Int) ≠ 4))) || (!(ix y174.2.1 0))) || (ix y174.2.1 1)) || (!(ix y174.2.1 2))) || (!(ix y174.2.1 3))) == false)) (phX (.bool (y191.getD default))), phG (true && (((((((((!y184) || (decide (y174.2.2 ≠ 0))) || (decide ((↑y174.1.length : Int) ≠ 4))) || (decide ((↑y174.2.1.length : Int) ≠ 4))) || (!(ix y174.2.1 0))) || (ix y174.2.1 1)) || (!(ix y174.2.1 2))) || (!(ix y174.2.1 3))) == false)) (phX (.bool (!(y191.getD default)))), phX (.bool (((((((((!y184) || (decide (y174.2.2 ≠ 0))) || (decide ((↑y174.1.length : Int) ≠ 4))) || (decide ((↑y174.2.1.length : Int) ≠ 4))) || (!(ix y174.2.1 0))) || (ix y174.2.1 1)) || (!(ix y174.2.1 2))) || (!(ix y174.2.1 3))) || (!(y191.getD default)))), phX (.bool (((((((((!y184) || (decide (y174.2.2 ≠ 0))) || (decide ((↑y174.1.length : Int) ≠ 4))) || (decide ((↑y174.2.1.length : Int) ≠ 4))) || (!(ix y174.2.1 0))) || (ix y174.2.1 1)) || (!(ix y174.2.1 2))) || (!(ix y174.2.1 3))) || (!(y191.getD default)))), phG (true && ((((((((((!y184) || (decide (y174.2.2 ≠ 0))) || (decide ((↑y174.1.length : Int) ≠ 4))) || (decide ((↑y174.2.1.length : Int) ≠ 4))) || (!(ix y174.2.1 0))) || (ix y174.2.1 1)) || (!(ix y174.2.1 2))) || (!(ix y174.2.1 3))) || (!(y191.getD default))) == false)) (phX v180), phG (true && ((((((((((!y184) || (decide (y174.2.2 ≠ 0))) || (decide ((↑y174.1.length : Int) ≠ 4))) || (decide ((↑y174.2.1.length : Int) ≠ 4))) || (!(ix y174.2.1 0))) || (ix y174.2.1 1)) || (!(ix y174.2.1 2))) || (!(ix y174.2.1 3))) || (!(y191.getD default))) == false)) (phP (tSl true (tInt .i64)) (ix y174.1 1)), phG (true && ((((((((((!y184) || (decide (y174.2.2 ≠ 0))) || (decide ((↑y174.1.length : Int) ≠ 4))) || (decide ((↑y174.2.1.length : Int) ≠ 4))) || (!(ix y174.2.1 0))) || (ix y174.2.1 1)) || (!(ix y174.2.1 2))) || (!(ix y174.2.1 3))) || (!(y191.getD default))) == false)) (phR (tSl true (tInt .i64)) (ix y174.1 1)), phG (true && ((((((((((!y184) || (decide (y174.2.2 ≠ 0))) || (decide ((↑y174.1.length : Int) ≠ 4))) || (decide ((↑y174.2.1.length : Int) ≠ 4))) || (!(ix y174.2.1 0))) || (ix y174.2.1 1)) || (!(ix y174.2.1 2))) || (!(ix y174.2.1 3))) || (!(y191.getD default))) == false)) (phX (.bool (y194.getD default))), phG (true && ((((((((((!y184) || (decide (y174.2.2 ≠ 0))) || (decide ((↑y174.1.length : Int) ≠ 4))) || (decide ((↑y174.2.1.length : Int) ≠ 4))) || (!(ix y174.2.1 0))) || (ix y174.2.1 1)) || (!(ix y174.2.1 2))) || (!(ix y174.2.1 3))) || (!(y191.getD default))) == false)) (phX (.bool (!(y194.getD default)))), phX (.bool ((((((((((!y184) || (decide (y174.2.2 ≠ 0))) || (decide ((↑y174.1.length : Int) ≠ 4))) || (decide ((↑y174.2.1.length : Int) ≠ 4))) || (!(ix y174.2.1 0))) || (ix y174.2.1 1)) || (!(ix y174.2.1 2))) || (!(ix y174.2.1 3))) || (!(y191.getD default))) || (!(y194.getD default)))), phX (.bool ((((((((((!y184) || (decide (y174.2.2 ≠ 0))) || (decide ((↑y174.1.length : Int) ≠ 4))) || (decide ((↑y174.2.1.length : Int) ≠ 4))) || (!(ix y174.2.1 0))) || (ix y174.2.1 1)) || (!(ix y174.2.1 2))) || (!(ix y174.2.1 3))) || (!(y191.getD default))) || (!(y194.getD default)))), phG (true && (((((((((((!y184) || (decide (y174.2.2 ≠ 0))) || (decide ((↑y174.1.length : Int) ≠ 4))) || (decide ((↑y174.2.1.length : Int) ≠ 4))) || (!(ix y174.2.1 0))) || (ix y174.2.1 1)) || (!(ix y174.2.1 2))) || (!(ix y174.2.1 3))) || (!(y191.getD default))) || (!(y194.getD default))) == false)) (phX v180), phG (true && (((((((((((!y184) || (decide (y174.2.2 ≠ 0))) || (decide ((↑y174.1.length : Int) ≠ 4))) || (decide ((↑y174.2.1.length : Int) ≠ 4))) || (!(ix y174.2.1 0))) || (ix y174.2.1 1)) || (!(ix y174.2.1 2))) || (!(ix y174.2.1 3))) || (!(y191.getD default))) || (!(y194.getD default))) == false)) (phP (tSl true (tInt .i64)) (ix y174.1 2)), phG (true && (((((((((((!y184) || (decide (y174.2.2 ≠ 0))) || (decide ((↑y174.1.length : Int) ≠ 4))) || (decide ((↑y174.2.1.length : Int) ≠ 4))) || (!(ix y174.2.1 0))) || (ix y174.2.1 1)) || (!(ix y174.2.1 2))) || (!(ix y174.2.1 3))) || (!(y191.getD default))) || (!(y194.getD default))) == false)) (phR (tSl true (tInt .i64)) (ix y174.1 2)), phG (true && (((((((((((!y184) || (decide (y174.2.2 ≠ 0))) || (decide ((↑y174.1.length : Int) ≠ 4))) || (decide ((↑y174.2.1.length : Int) ≠ 4))) || (!(ix y174.2.1 0))) || (ix y174.2.1 1)) || (!(ix y174.2.1 2))) || (!(ix y174.2.1 3))) || (!(y191.getD default))) || (!(y194.getD default))) == false)) (phR (tSl true (tInt .i64)) ([0] : List Int)), phG (true && (((((((((((!y184) || (decide (y174.2.2 ≠ 0))) || (decide ((↑y174.1.length : Int) ≠ 4))) || (decide ((↑y174.2.1.length : Int) ≠ 4))) || (!(ix y174.2.1 0))) || (ix y174.2.1 1)) || (!(ix y174.2.1 2))) || (!(ix y174.2.1 3))) || (!(y191.getD default))) || (!(y194.getD default))) == false)) (phX (.bool (y197.getD default))), phG (true && (((((((((((!y184) || (decide (y174.2.2 ≠ 0))) || (decide ((↑y174.1.length : Int) ≠ 4))) || (decide ((↑y174.2.1.length : Int) ≠ 4))) || (!(ix y174.2.1 0))) || (ix y174.2.1 1)) || (!(ix y174.2.1 2))) || (!(ix y174.2.1 3))) || (!(y191.getD default))) || (!(y194.getD default))) == false)) (phX (.bool (!(y197.getD default)))), phX (.bool (((((((((((!y184) || (decide (y174.2.2 ≠ 0))) || (decide ((↑y174.1.length : Int) ≠ 4))) || (decide ((↑y174.2.1.length : Int) ≠ 4))) || (!(ix y174.2.1 0))) || (ix y174.2.1 1)) || (!(ix y174.2.1 2))) || (!(ix y174.2.1 3))) || (!(y191.getD default))) || (!(y194.getD default))) || (!(y197.getD default)))), phX (.bool (((((((((((!y184) || (decide (y174.2.2 ≠ 0))) || (decide ((↑y174.1.length : Int) ≠ 4))) || (decide ((↑y174.2.1.length : Int) ≠ 4))) || (!(ix y174.2.1 0))) || (ix y174.2.1 1)) || (!(ix y174.2.1 2))) || (!(ix y174.2.1 3))) || (!(y191.getD default))) || (!(y194.getD default))) || (!(y197.getD default)))), phG (true && ((((((((((((!y184) || (decide (y174.2.2 ≠ 0))) || (decide ((↑y174.1.length : Int) ≠ 4))) || (decide ((↑y174.2.1.length : Int) ≠ 4))) || (!(ix y174.2.1 0))) || (ix y174.2.1 1)) || (!(ix y174.2.1 2))) || (!(ix y174.2.1 3))) || (!(y191.getD default))) || (!(y194.getD default))) || (!(y197.getD default))) == false)) (phX v180), phG (true && ((((((((((((!y184) || (decide (y174.2.2 ≠ 0))) || (decide ((↑y174.1.length : Int) ≠ 4))) || (decide ((↑y174.2.1.length : Int) ≠ 4))) || (!(ix y174.2.1 0))) || (ix y174.2.1 1)) || (!(ix y174.2.1 2))) || (!(ix y174.2.1 3))) || (!(y191.getD default))) || (!(y194.getD default))) || (!(y197.getD default))) == false)) (phP (tSl true (tInt .i64)) (ix y174.1 3)), phG (true && ((((((((((((!y184) || (decide (y174.2.2 ≠ 0))) || (decide ((↑y174.1.length : Int) ≠ 4))) || (decide ((↑y174.2.1.length : Int) ≠ 4))) || (!(ix y174.2.1 0))) || (ix y174.2.1 1)) || (!(ix y174.2.1 2))) || (!(ix y174.2.1 3))) || (!(y191.getD default))) || (!(y194.getD default))) || (!(y197.getD default))) == false)) (phR (tSl true (tInt .i64)) (ix y174.1 3)), phG (true && ((((((((((((!y184) || (decide (y174.2.2 ≠ 0))) || (decide ((↑y174.1.length : Int) ≠ 4))) || (decide ((↑y174.2.1.length : Int) ≠ 4))) || (!(ix y174.2.1 0))) || (ix y174.2.1 1)) || (!(ix y174.2.1 2))) || (!(ix y174.2.1 3))) || (!(y191.getD default))) || (!(y194.getD default))) || (!(y197.getD default))) == false)) (phR (tSl true (tInt .i64)) ([0, 1] : List Int)), phG (true && ((((((((((((!y184) || (decide (y174.2.2 ≠ 0))) || (decide ((↑y174.1.length : Int) ≠ 4))) || (decide ((↑y174.2.1.length : Int) ≠ 4))) || (!(ix y174.2.1 0))) || (ix y174.2.1 1)) || (!(ix y174.2.1 2))) || (!(ix y174.2.1 3))) || (!(y191.getD default))) || (!(y194.getD default))) || (!(y197.getD default))) == false)) (phX (.bool (y200.getD default))), phG (true && ((((((((((((!y184) || (decide (y174.2.2 ≠ 0))) || (decide ((↑y174.1.length : Int) ≠ 4))) || (decide ((↑y174.2.1.length : Int) ≠ 4))) || (!(ix y174.2.1 0))) || (ix y174.2.1 1)) || (!(ix y174.2.1 2))) || (!(ix y174.2.1 3))) || (!(y191.getD default))) || (!(y194.getD default))) || (!(y197.getD default))) == false)) (phX (.bool (!(y200.getD default)))), phX (.bool ((((((((((((!y184) || (decide (y174.2.2 ≠ 0))) || (decide ((↑y174.1.length : Int) ≠ 4))) || (decide ((↑y174.2.1.length : Int) ≠ 4))) || (!(ix y174.2.1 0))) || (ix y174.2.1 1)) || (!(ix y174.2.1 2))) || (!(ix y174.2.1 3))) || (!(y191.getD default))) || (!(y194.getD default))) || (!(y197.getD default))) || (!(y200.getD default))))] (by as_aux_lemma => kernel_rfl) (by as_aux_lemma => kernel_rfl) (monoOk_of ⟨mono_x, mono_x, mono_r, mono_x, mono_x, mono_x, (mono_g mono_x), (mono_g mono_x), mono_x, mono_x, (mono_g mono_x), (mono_g mono_x), (mono_g mono_x), mono_x, mono_x, (mono_g mono_x), (mono_g mono_x), (mono_g mono_x), mono_x, mono_x, (mono_g mono_x), (mono_g mono_p), (mono_g mono_x), (mono_g mono_x), mono_x, mono_x, (mono_g mono_x), (mono_g mono_p), (mono_g mono_x), mono_x, mono_x, (mono_g mono_x), (mono_g mono_p), (mono_g mono_x), (mono_g mono_x), mono_x, mono_x, (mono_g mono_x), (mono_g mono_p), (mono_g mono_x), (mono_g mono_x), mono_x, mono_x, (mono_g mono_x), (mono_g mono_p), (mono_g mono_r), (mono_g mono_x), (mono_g mono_x), mono_x, mono_x, (mono_g mono_x), (mono_g mono_p), (mono_g mono_r), (mono_g mono_x), (mono_g mono_x), mono_x, mono_x, (mono_g mono_x), (mono_g mono_p), (mono_g mono_r), (mono_g mono_r), (mono_g mono_x), (mono_g mono_x), mono_x, mono_x, (mono_g mono_x), (mono_g mono_p), (mono_g mono_r), (mono_g mono_r), (mono_g mono_x), (mono_g mono_x), mono_x, trivial⟩) ⟨?_, ?_, ?_, ?_, ?_, ?_, ?_, ?_, ?_, ?_, ?_, ?_, ?_, ?_, ?_, ?_, ?_, ?_, ?_, ?_, ?_, ?_, ?_, ?_, ?_, ?_, ?_, ?_, ?_, ?_, ?_, ?_, ?_, ?_, ?_, ?_, ?_, ?_, ?_, ?_, ?_, ?_, ?_, ?_, ?_, ?_, ?_, ?_, ?_, ?_, ?_, ?_, ?_, ?_, ?_, ?_, ?_, ?_, ?_, ?_, ?_, ?_, ?_, ?_, ?_, ?_, ?_, ?_, ?_, ?_, ?_, ?_, trivial⟩ fun R202 le203 => ?_
  · intro l R0q hle ha hd
    have a3 : l 3 = v172 := ha 3 rfl
    exact gstep_plain rfl rfl rfl (ph_val (val_move a3))
  · intro l R1q hle ha hd
    have a4 : l 4 = (.int .i64 y166.2) := ha 4 rfl
    exact gstep_plain rfl rfl rfl (ph_val (val_move a4))
  · intro l R2q hle ha hd
    exact gstep_plain rfl rfl rfl (ph_litT (T := (tInt .i64)) (X := ([0, 2, 3] : List Int)) (ps := [(0, (.int .i64 0)), (1, (.int .i64 2)), (2, (.int .i64 3))]) (css := [[(.int .i64 0)], [(.int .i64 2)], [(.int .i64 3)]]) Try.underlying36 zo3 rfl rfl (lit_reps ⟨rfl, rfl, rfl, trivial⟩) rfl rfl (by decide))
  · intro l R3q hle ha hd
    obtain ⟨d0, d1, d2, _⟩ := hd
    have f68 : l 68 = v172 := d0 rfl
    have f69 : l 69 = (.int .i64 y166.2) := d1 rfl
    have f70 : phR (tSl true (tInt .i64)) ([0, 2, 3] : List Int) (l 70) R3q := d2 rfl
    exact gstep_plain rfl rfl rfl (ph_callP (vs := [v172, (.int .i64 y166.2), (l 70), (.int .i64 0)]) en14 (by simp only [List.map, ev, f68, f69] <;> rfl) (c_gauntletlaw06_list ((h173.mono le179).mono hle) (Sub.v (B := (tSl false (tInt .i64))) (sub_sl Sub.refl (fun _ => rfl)) f70) c185) (fun _ _ h => h))
  · intro l R4q hle ha hd
    obtain ⟨d0, _⟩ := hd
    have f71 : l 71 = (.bool y184) := d0 rfl
    exact gstep_plain rfl rfl rfl (ph_val (val_not f71))
  · intro l R5q hle ha hd
    obtain ⟨d0, d1, _⟩ := hd
    have f72 : l 72 = (.bool (!y184)) := d0 rfl
    exact gstep_plain rfl rfl rfl (ph_val (val_move f72))
  · intro l R6q hle ha hd
    obtain ⟨d0, _⟩ := hd
    have a7 : l 7 = (.int .i64 y174.2.2) := ha 7 rfl
    exact gstep_guard (Gj := true) (Bj := !y184) rfl rfl rfl (gtrue (d0 rfl)) rfl (fun hG hB => ph_val (val_move a7))
  · intro l R7q hle ha hd
    obtain ⟨d0, d1, _⟩ := hd
    have f74g : phG (true && ((!y184) == false)) (phX (.int .i64 y174.2.2)) (l 74) R7q := d0 rfl
    exact gstep_guard (Gj := true) (Bj := !y184) rfl rfl rfl (gtrue (d1 rfl)) rfl (fun hG hB => ph_val (val_neq (show l 74 = (.int .i64 y174.2.2) from f74g.1 (gandT rfl hB)) rfl))
  · intro l R8q hle ha hd
    obtain ⟨d0, d1, _⟩ := hd
    have f73 : l 73 = (.bool (!y184)) := d0 rfl
    have f75g : phG (true && ((!y184) == false)) (phX (.bool (decide (y174.2.2 ≠ 0)))) (l 75) R8q := d1 rfl
    exact gstep_plain rfl rfl rfl (ph_val (val_or f73 rfl (fun hb => (show l 75 = (.bool (decide (y174.2.2 ≠ 0))) from f75g.1 (gandT rfl hb)))))
  · intro l R9q hle ha hd
    obtain ⟨d0, d1, _⟩ := hd
    have f76 : l 76 = (.bool ((!y184) || (decide (y174.2.2 ≠ 0)))) := d0 rfl
    exact gstep_plain rfl rfl rfl (ph_val (val_move f76))
  · intro l R10q hle ha hd
    obtain ⟨d0, _⟩ := hd
    have a5 : l 5 = v180 := ha 5 rfl
    exact gstep_guard (Gj := true) (Bj := (!y184) || (decide (y174.2.2 ≠ 0))) rfl rfl rfl (gtrue (d0 rfl)) rfl (fun hG hB => ph_val (val_move a5))
  · intro l R11q hle ha hd
    obtain ⟨d0, d1, _⟩ := hd
    have f78g : phG (true && (((!y184) || (decide (y174.2.2 ≠ 0))) == false)) (phX v180) (l 78) R11q := d0 rfl
    exact gstep_guard (Gj := true) (Bj := (!y184) || (decide (y174.2.2 ≠ 0))) rfl rfl rfl (gtrue (d1 rfl)) rfl (fun hG hB => ph_val (val_lenR rfl Try.underlying29 (show l 78 = v180 from f78g.1 (gandT rfl hB)) (sl_s (h181.mono hle))))
  · intro l R12q hle ha hd
    obtain ⟨d0, d1, _⟩ := hd
    have f79g : phG (true && (((!y184) || (decide (y174.2.2 ≠ 0))) == false)) (phX (.int .i64 (↑y174.1.length : Int))) (l 79) R12q := d0 rfl
    exact gstep_guard (Gj := true) (Bj := (!y184) || (decide (y174.2.2 ≠ 0))) rfl rfl rfl (gtrue (d1 rfl)) rfl (fun hG hB => ph_val (val_neq (show l 79 = (.int .i64 (↑y174.1.length : Int)) from f79g.1 (gandT rfl hB)) rfl))
  · intro l R13q hle ha hd
    obtain ⟨d0, d1, _⟩ := hd
    have f77 : l 77 = (.bool ((!y184) || (decide (y174.2.2 ≠ 0)))) := d0 rfl
    have f80g : phG (true && (((!y184) || (decide (y174.2.2 ≠ 0))) == false)) (phX (.bool (decide ((↑y174.1.length : Int) ≠ 4)))) (l 80) R13q := d1 rfl
    exact gstep_plain rfl rfl rfl (ph_val (val_or f77 rfl (fun hb => (show l 80 = (.bool (decide ((↑y174.1.length : Int) ≠ 4))) from f80g.1 (gandT rfl hb)))))
  · intro l R14q hle ha hd
    obtain ⟨d0, d1, _⟩ := hd
    have f81 : l 81 = (.bool (((!y184) || (decide (y174.2.2 ≠ 0))) || (decide ((↑y174.1.length : Int) ≠ 4)))) := d0 rfl
    exact gstep_plain rfl rfl rfl (ph_val (val_move f81))
  · intro l R15q hle ha hd
    obtain ⟨d0, _⟩ := hd
    have a6 : l 6 = v182 := ha 6 rfl
    exact gstep_guard (Gj := true) (Bj := ((!y184) || (decide (y174.2.2 ≠ 0))) || (decide ((↑y174.1.length : Int) ≠ 4))) rfl rfl rfl (gtrue (d0 rfl)) rfl (fun hG hB => ph_val (val_move a6))
  · intro l R16q hle ha hd
    obtain ⟨d0, d1, _⟩ := hd
    have f83g : phG (true && ((((!y184) || (decide (y174.2.2 ≠ 0))) || (decide ((↑y174.1.length : Int) ≠ 4))) == false)) (phX v182) (l 83) R16q := d0 rfl
    exact gstep_guard (Gj := true) (Bj := ((!y184) || (decide (y174.2.2 ≠ 0))) || (decide ((↑y174.1.length : Int) ≠ 4))) rfl rfl rfl (gtrue (d1 rfl)) rfl (fun hG hB => ph_val (val_lenR rfl Try.underlying30 (show l 83 = v182 from f83g.1 (gandT rfl hB)) (sl_s (h183.mono hle))))
  · intro l R17q hle ha hd
    obtain ⟨d0, d1, _⟩ := hd
    have f84g : phG (true && ((((!y184) || (decide (y174.2.2 ≠ 0))) || (decide ((↑y174.1.length : Int) ≠ 4))) == false)) (phX (.int .i64 (↑y174.2.1.length : Int))) (l 84) R17q := d0 rfl
    exact gstep_guard (Gj := true) (Bj := ((!y184) || (decide (y174.2.2 ≠ 0))) || (decide ((↑y174.1.length : Int) ≠ 4))) rfl rfl rfl (gtrue (d1 rfl)) rfl (fun hG hB => ph_val (val_neq (show l 84 = (.int .i64 (↑y174.2.1.length : Int)) from f84g.1 (gandT rfl hB)) rfl))
  · intro l R18q hle ha hd
    obtain ⟨d0, d1, _⟩ := hd
    have f82 : l 82 = (.bool (((!y184) || (decide (y174.2.2 ≠ 0))) || (decide ((↑y174.1.length : Int) ≠ 4)))) := d0 rfl
    have f85g : phG (true && ((((!y184) || (decide (y174.2.2 ≠ 0))) || (decide ((↑y174.1.length : Int) ≠ 4))) == false)) (phX (.bool (decide ((↑y174.2.1.length : Int) ≠ 4)))) (l 85) R18q := d1 rfl
    exact gstep_plain rfl rfl rfl (ph_val (val_or f82 rfl (fun hb => (show l 85 = (.bool (decide ((↑y174.2.1.length : Int) ≠ 4))) from f85g.1 (gandT rfl hb)))))
  · intro l R19q hle ha hd
    obtain ⟨d0, d1, _⟩ := hd
    have f86 : l 86 = (.bool ((((!y184) || (decide (y174.2.2 ≠ 0))) || (decide ((↑y174.1.length : Int) ≠ 4))) || (decide ((↑y174.2.1.length : Int) ≠ 4)))) := d0 rfl
    exact gstep_plain rfl rfl rfl (ph_val (val_move f86))
  · intro l R20q hle ha hd
    obtain ⟨d0, _⟩ := hd
    have a6 : l 6 = v182 := ha 6 rfl
    exact gstep_guard (Gj := true) (Bj := (((!y184) || (decide (y174.2.2 ≠ 0))) || (decide ((↑y174.1.length : Int) ≠ 4))) || (decide ((↑y174.2.1.length : Int) ≠ 4))) rfl rfl rfl (gtrue (d0 rfl)) rfl (fun hG hB => ph_val (val_move a6))
  · intro l R21q hle ha hd
    obtain ⟨d0, d1, _⟩ := hd
    have f88g : phG (true && (((((!y184) || (decide (y174.2.2 ≠ 0))) || (decide ((↑y174.1.length : Int) ≠ 4))) || (decide ((↑y174.2.1.length : Int) ≠ 4))) == false)) (phX v182) (l 88) R21q := d0 rfl
    exact gstep_guard (Gj := true) (Bj := (((!y184) || (decide (y174.2.2 ≠ 0))) || (decide ((↑y174.1.length : Int) ≠ 4))) || (decide ((↑y174.2.1.length : Int) ≠ 4))) rfl rfl rfl (gtrue (d1 rfl)) rfl (fun hG hB => ph_indexR (i := (0 : Int).toNat) sl30 (show l 88 = v182 from f88g.1 (gandT rfl hB)) (sl_s (h183.mono hle)) (idx_nonneg rfl (g186 (gandT hG hB)).1) (okI_lt (g186 (gandT hG hB))))
  · intro l R22q hle ha hd
    obtain ⟨d0, d1, _⟩ := hd
    have f89g : phG (true && (((((!y184) || (decide (y174.2.2 ≠ 0))) || (decide ((↑y174.1.length : Int) ≠ 4))) || (decide ((↑y174.2.1.length : Int) ≠ 4))) == false)) (phP tBool (ix y174.2.1 0)) (l 89) R22q := d0 rfl
    exact gstep_guard (Gj := true) (Bj := (((!y184) || (decide (y174.2.2 ≠ 0))) || (decide ((↑y174.1.length : Int) ≠ 4))) || (decide ((↑y174.2.1.length : Int) ≠ 4))) rfl rfl rfl (gtrue (d1 rfl)) rfl (fun hG hB => ph_exact (ph_loadR ty4 rfl (f89g.1 (gandT rfl hB))) (fun _ _ h => vrep_bool.1 h))
  · intro l R23q hle ha hd
    obtain ⟨d0, d1, _⟩ := hd
    have f90g : phG (true && (((((!y184) || (decide (y174.2.2 ≠ 0))) || (decide ((↑y174.1.length : Int) ≠ 4))) || (decide ((↑y174.2.1.length : Int) ≠ 4))) == false)) (phX (.bool (ix y174.2.1 0))) (l 90) R23q := d0 rfl
    exact gstep_guard (Gj := true) (Bj := (((!y184) || (decide (y174.2.2 ≠ 0))) || (decide ((↑y174.1.length : Int) ≠ 4))) || (decide ((↑y174.2.1.length : Int) ≠ 4))) rfl rfl rfl (gtrue (d1 rfl)) rfl (fun hG hB => ph_val (val_not (show l 90 = (.bool (ix y174.2.1 0)) from f90g.1 (gandT rfl hB))))
  · intro l R24q hle ha hd
    obtain ⟨d0, d1, _⟩ := hd
    have f87 : l 87 = (.bool ((((!y184) || (decide (y174.2.2 ≠ 0))) || (decide ((↑y174.1.length : Int) ≠ 4))) || (decide ((↑y174.2.1.length : Int) ≠ 4)))) := d0 rfl
    have f91g : phG (true && (((((!y184) || (decide (y174.2.2 ≠ 0))) || (decide ((↑y174.1.length : Int) ≠ 4))) || (decide ((↑y174.2.1.length : Int) ≠ 4))) == false)) (phX (.bool (!(ix y174.2.1 0)))) (l 91) R24q := d1 rfl
    exact gstep_plain rfl rfl rfl (ph_val (val_or f87 rfl (fun hb => (show l 91 = (.bool (!(ix y174.2.1 0))) from f91g.1 (gandT rfl hb)))))
  · intro l R25q hle ha hd
    obtain ⟨d0, d1, _⟩ := hd
    have f92 : l 92 = (.bool (((((!y184) || (decide (y174.2.2 ≠ 0))) || (decide ((↑y174.1.length : Int) ≠ 4))) || (decide ((↑y174.2.1.length : Int) ≠ 4))) || (!(ix y174.2.1 0)))) := d0 rfl
    exact gstep_plain rfl rfl rfl (ph_val (val_move f92))
  · intro l R26q hle ha hd
    obtain ⟨d0, _⟩ := hd
    have a6 : l 6 = v182 := ha 6 rfl
    exact gstep_guard (Gj := true) (Bj := ((((!y184) || (decide (y174.2.2 ≠ 0))) || (decide ((↑y174.1.length : Int) ≠ 4))) || (decide ((↑y174.2.1.length : Int) ≠ 4))) || (!(ix y174.2.1 0))) rfl rfl rfl (gtrue (d0 rfl)) rfl (fun hG hB => ph_val (val_move a6))
  · intro l R27q hle ha hd
    obtain ⟨d0, d1, _⟩ := hd
    have f94g : phG (true && ((((((!y184) || (decide (y174.2.2 ≠ 0))) || (decide ((↑y174.1.length : Int) ≠ 4))) || (decide ((↑y174.2.1.length : Int) ≠ 4))) || (!(ix y174.2.1 0))) == false)) (phX v182) (l 94) R27q := d0 rfl
    exact gstep_guard (Gj := true) (Bj := ((((!y184) || (decide (y174.2.2 ≠ 0))) || (decide ((↑y174.1.length : Int) ≠ 4))) || (decide ((↑y174.2.1.length : Int) ≠ 4))) || (!(ix y174.2.1 0))) rfl rfl rfl (gtrue (d1 rfl)) rfl (fun hG hB => ph_indexR (i := (1 : Int).toNat) sl30 (show l 94 = v182 from f94g.1 (gandT rfl hB)) (sl_s (h183.mono hle)) (idx_nonneg rfl (g187 (gandT hG hB)).1) (okI_lt (g187 (gandT hG hB))))
  · intro l R28q hle ha hd
    obtain ⟨d0, d1, _⟩ := hd
    have f95g : phG (true && ((((((!y184) || (decide (y174.2.2 ≠ 0))) || (decide ((↑y174.1.length : Int) ≠ 4))) || (decide ((↑y174.2.1.length : Int) ≠ 4))) || (!(ix y174.2.1 0))) == false)) (phP tBool (ix y174.2.1 1)) (l 95) R28q := d0 rfl
    exact gstep_guard (Gj := true) (Bj := ((((!y184) || (decide (y174.2.2 ≠ 0))) || (decide ((↑y174.1.length : Int) ≠ 4))) || (decide ((↑y174.2.1.length : Int) ≠ 4))) || (!(ix y174.2.1 0))) rfl rfl rfl (gtrue (d1 rfl)) rfl (fun hG hB => ph_exact (ph_loadR ty4 rfl (f95g.1 (gandT rfl hB))) (fun _ _ h => vrep_bool.1 h))
  · intro l R29q hle ha hd
    obtain ⟨d0, d1, _⟩ := hd
    have f93 : l 93 = (.bool (((((!y184) || (decide (y174.2.2 ≠ 0))) || (decide ((↑y174.1.length : Int) ≠ 4))) || (decide ((↑y174.2.1.length : Int) ≠ 4))) || (!(ix y174.2.1 0)))) := d0 rfl
    have f96g : phG (true && ((((((!y184) || (decide (y174.2.2 ≠ 0))) || (decide ((↑y174.1.length : Int) ≠ 4))) || (decide ((↑y174.2.1.length : Int) ≠ 4))) || (!(ix y174.2.1 0))) == false)) (phX (.bool (ix y174.2.1 1))) (l 96) R29q := d1 rfl
    exact gstep_plain rfl rfl rfl (ph_val (val_or f93 rfl (fun hb => (show l 96 = (.bool (ix y174.2.1 1)) from f96g.1 (gandT rfl hb)))))
  · intro l R30q hle ha hd
    obtain ⟨d0, d1, _⟩ := hd
    have f97 : l 97 = (.bool ((((((!y184) || (decide (y174.2.2 ≠ 0))) || (decide ((↑y174.1.length : Int) ≠ 4))) || (decide ((↑y174.2.1.length : Int) ≠ 4))) || (!(ix y174.2.1 0))) || (ix y174.2.1 1))) := d0 rfl
    exact gstep_plain rfl rfl rfl (ph_val (val_move f97))
  · intro l R31q hle ha hd
    obtain ⟨d0, _⟩ := hd
    have a6 : l 6 = v182 := ha 6 rfl
    exact gstep_guard (Gj := true) (Bj := (((((!y184) || (decide (y174.2.2 ≠ 0))) || (decide ((↑y174.1.length : Int) ≠ 4))) || (decide ((↑y174.2.1.length : Int) ≠ 4))) || (!(ix y174.2.1 0))) || (ix y174.2.1 1)) rfl rfl rfl (gtrue (d0 rfl)) rfl (fun hG hB => ph_val (val_move a6))
  · intro l R32q hle ha hd
    obtain ⟨d0, d1, _⟩ := hd
    have f99g : phG (true && (((((((!y184) || (decide (y174.2.2 ≠ 0))) || (decide ((↑y174.1.length : Int) ≠ 4))) || (decide ((↑y174.2.1.length : Int) ≠ 4))) || (!(ix y174.2.1 0))) || (ix y174.2.1 1)) == false)) (phX v182) (l 99) R32q := d0 rfl
    exact gstep_guard (Gj := true) (Bj := (((((!y184) || (decide (y174.2.2 ≠ 0))) || (decide ((↑y174.1.length : Int) ≠ 4))) || (decide ((↑y174.2.1.length : Int) ≠ 4))) || (!(ix y174.2.1 0))) || (ix y174.2.1 1)) rfl rfl rfl (gtrue (d1 rfl)) rfl (fun hG hB => ph_indexR (i := (2 : Int).toNat) sl30 (show l 99 = v182 from f99g.1 (gandT rfl hB)) (sl_s (h183.mono hle)) (idx_nonneg rfl (g188 (gandT hG hB)).1) (okI_lt (g188 (gandT hG hB))))
  · intro l R33q hle ha hd
    obtain ⟨d0, d1, _⟩ := hd
    have f100g : phG (true && (((((((!y184) || (decide (y174.2.2 ≠ 0))) || (decide ((↑y174.1.length : Int) ≠ 4))) || (decide ((↑y174.2.1.length : Int) ≠ 4))) || (!(ix y174.2.1 0))) || (ix y174.2.1 1)) == false)) (phP tBool (ix y174.2.1 2)) (l 100) R33q := d0 rfl
    exact gstep_guard (Gj := true) (Bj := (((((!y184) || (decide (y174.2.2 ≠ 0))) || (decide ((↑y174.1.length : Int) ≠ 4))) || (decide ((↑y174.2.1.length : Int) ≠ 4))) || (!(ix y174.2.1 0))) || (ix y174.2.1 1)) rfl rfl rfl (gtrue (d1 rfl)) rfl (fun hG hB => ph_exact (ph_loadR ty4 rfl (f100g.1 (gandT rfl hB))) (fun _ _ h => vrep_bool.1 h))
  · intro l R34q hle ha hd
    obtain ⟨d0, d1, _⟩ := hd
    have f101g : phG (true && (((((((!y184) || (decide (y174.2.2 ≠ 0))) || (decide ((↑y174.1.length : Int) ≠ 4))) || (decide ((↑y174.2.1.length : Int) ≠ 4))) || (!(ix y174.2.1 0))) || (ix y174.2.1 1)) == false)) (phX (.bool (ix y174.2.1 2))) (l 101) R34q := d0 rfl
    exact gstep_guard (Gj := true) (Bj := (((((!y184) || (decide (y174.2.2 ≠ 0))) || (decide ((↑y174.1.length : Int) ≠ 4))) || (decide ((↑y174.2.1.length : Int) ≠ 4))) || (!(ix y174.2.1 0))) || (ix y174.2.1 1)) rfl rfl rfl (gtrue (d1 rfl)) rfl (fun hG hB => ph_val (val_not (show l 101 = (.bool (ix y174.2.1 2)) from f101g.1 (gandT rfl hB))))
  · intro l R35q hle ha hd
    obtain ⟨d0, d1, _⟩ := hd
    have f98 : l 98 = (.bool ((((((!y184) || (decide (y174.2.2 ≠ 0))) || (decide ((↑y174.1.length : Int) ≠ 4))) || (decide ((↑y174.2.1.length : Int) ≠ 4))) || (!(ix y174.2.1 0))) || (ix y174.2.1 1))) := d0 rfl
    have f102g : phG (true && (((((((!y184) || (decide (y174.2.2 ≠ 0))) || (decide ((↑y174.1.length : Int) ≠ 4))) || (decide ((↑y174.2.1.length : Int) ≠ 4))) || (!(ix y174.2.1 0))) || (ix y174.2.1 1)) == false)) (phX (.bool (!(ix y174.2.1 2)))) (l 102) R35q := d1 rfl
    exact gstep_plain rfl rfl rfl (ph_val (val_or f98 rfl (fun hb => (show l 102 = (.bool (!(ix y174.2.1 2))) from f102g.1 (gandT rfl hb)))))
  · intro l R36q hle ha hd
    obtain ⟨d0, d1, _⟩ := hd
    have f103 : l 103 = (.bool (((((((!y184) || (decide (y174.2.2 ≠ 0))) || (decide ((↑y174.1.length : Int) ≠ 4))) || (decide ((↑y174.2.1.length : Int) ≠ 4))) || (!(ix y174.2.1 0))) || (ix y174.2.1 1)) || (!(ix y174.2.1 2)))) := d0 rfl
    exact gstep_plain rfl rfl rfl (ph_val (val_move f103))
  · intro l R37q hle ha hd
    obtain ⟨d0, _⟩ := hd
    have a6 : l 6 = v182 := ha 6 rfl
    exact gstep_guard (Gj := true) (Bj := ((((((!y184) || (decide (y174.2.2 ≠ 0))) || (decide ((↑y174.1.length : Int) ≠ 4))) || (decide ((↑y174.2.1.length : Int) ≠ 4))) || (!(ix y174.2.1 0))) || (ix y174.2.1 1)) || (!(ix y174.2.1 2))) rfl rfl rfl (gtrue (d0 rfl)) rfl (fun hG hB => ph_val (val_move a6))
  · intro l R38q hle ha hd
    obtain ⟨d0, d1, _⟩ := hd
    have f105g : phG (true && ((((((((!y184) || (decide (y174.2.2 ≠ 0))) || (decide ((↑y174.1.length : Int) ≠ 4))) || (decide ((↑y174.2.1.length : Int) ≠ 4))) || (!(ix y174.2.1 0))) || (ix y174.2.1 1)) || (!(ix y174.2.1 2))) == false)) (phX v182) (l 105) R38q := d0 rfl
    exact gstep_guard (Gj := true) (Bj := ((((((!y184) || (decide (y174.2.2 ≠ 0))) || (decide ((↑y174.1.length : Int) ≠ 4))) || (decide ((↑y174.2.1.length : Int) ≠ 4))) || (!(ix y174.2.1 0))) || (ix y174.2.1 1)) || (!(ix y174.2.1 2))) rfl rfl rfl (gtrue (d1 rfl)) rfl (fun hG hB => ph_indexR (i := (3 : Int).toNat) sl30 (show l 105 = v182 from f105g.1 (gandT rfl hB)) (sl_s (h183.mono hle)) (idx_nonneg rfl (g189 (gandT hG hB)).1) (okI_lt (g189 (gandT hG hB))))
  · intro l R39q hle ha hd
    obtain ⟨d0, d1, _⟩ := hd
    have f106g : phG (true && ((((((((!y184) || (decide (y174.2.2 ≠ 0))) || (decide ((↑y174.1.length : Int) ≠ 4))) || (decide ((↑y174.2.1.length : Int) ≠ 4))) || (!(ix y174.2.1 0))) || (ix y174.2.1 1)) || (!(ix y174.2.1 2))) == false)) (phP tBool (ix y174.2.1 3)) (l 106) R39q := d0 rfl
    exact gstep_guard (Gj := true) (Bj := ((((((!y184) || (decide (y174.2.2 ≠ 0))) || (decide ((↑y174.1.length : Int) ≠ 4))) || (decide ((↑y174.2.1.length : Int) ≠ 4))) || (!(ix y174.2.1 0))) || (ix y174.2.1 1)) || (!(ix y174.2.1 2))) rfl rfl rfl (gtrue (d1 rfl)) rfl (fun hG hB => ph_exact (ph_loadR ty4 rfl (f106g.1 (gandT rfl hB))) (fun _ _ h => vrep_bool.1 h))
  · intro l R40q hle ha hd
    obtain ⟨d0, d1, _⟩ := hd
    have f107g : phG (true && ((((((((!y184) || (decide (y174.2.2 ≠ 0))) || (decide ((↑y174.1.length : Int) ≠ 4))) || (decide ((↑y174.2.1.length : Int) ≠ 4))) || (!(ix y174.2.1 0))) || (ix y174.2.1 1)) || (!(ix y174.2.1 2))) == false)) (phX (.bool (ix y174.2.1 3))) (l 107) R40q := d0 rfl
    exact gstep_guard (Gj := true) (Bj := ((((((!y184) || (decide (y174.2.2 ≠ 0))) || (decide ((↑y174.1.length : Int) ≠ 4))) || (decide ((↑y174.2.1.length : Int) ≠ 4))) || (!(ix y174.2.1 0))) || (ix y174.2.1 1)) || (!(ix y174.2.1 2))) rfl rfl rfl (gtrue (d1 rfl)) rfl (fun hG hB => ph_val (val_not (show l 107 = (.bool (ix y174.2.1 3)) from f107g.1 (gandT rfl hB))))
  · intro l R41q hle ha hd
    obtain ⟨d0, d1, _⟩ := hd
    have f104 : l 104 = (.bool (((((((!y184) || (decide (y174.2.2 ≠ 0))) || (decide ((↑y174.1.length : Int) ≠ 4))) || (decide ((↑y174.2.1.length : Int) ≠ 4))) || (!(ix y174.2.1 0))) || (ix y174.2.1 1)) || (!(ix y174.2.1 2)))) := d0 rfl
    have f108g : phG (true && ((((((((!y184) || (decide (y174.2.2 ≠ 0))) || (decide ((↑y174.1.length : Int) ≠ 4))) || (decide ((↑y174.2.1.length : Int) ≠ 4))) || (!(ix y174.2.1 0))) || (ix y174.2.1 1)) || (!(ix y174.2.1 2))) == false)) (phX (.bool (!(ix y174.2.1 3)))) (l 108) R41q := d1 rfl
    exact gstep_plain rfl rfl rfl (ph_val (val_or f104 rfl (fun hb => (show l 108 = (.bool (!(ix y174.2.1 3))) from f108g.1 (gandT rfl hb)))))
  · intro l R42q hle ha hd
    obtain ⟨d0, d1, _⟩ := hd
    have f109 : l 109 = (.bool ((((((((!y184) || (decide (y174.2.2 ≠ 0))) || (decide ((↑y174.1.length : Int) ≠ 4))) || (decide ((↑y174.2.1.length : Int) ≠ 4))) || (!(ix y174.2.1 0))) || (ix y174.2.1 1)) || (!(ix y174.2.1 2))) || (!(ix y174.2.1 3)))) := d0 rfl
    exact gstep_plain rfl rfl rfl (ph_val (val_move f109))
  · intro l R43q hle ha hd
    obtain ⟨d0, _⟩ := hd
    have a5 : l 5 = v180 := ha 5 rfl
    exact gstep_guard (Gj := true) (Bj := (((((((!y184) || (decide (y174.2.2 ≠ 0))) || (decide ((↑y174.1.length : Int) ≠ 4))) || (decide ((↑y174.2.1.length : Int) ≠ 4))) || (!(ix y174.2.1 0))) || (ix y174.2.1 1)) || (!(ix y174.2.1 2))) || (!(ix y174.2.1 3))) rfl rfl rfl (gtrue (d0 rfl)) rfl (fun hG hB => ph_val (val_move a5))
  · intro l R44q hle ha hd
    obtain ⟨d0, d1, _⟩ := hd
    have f111g : phG (true && (((((((((!y184) || (decide (y174.2.2 ≠ 0))) || (decide ((↑y174.1.length : Int) ≠ 4))) || (decide ((↑y174.2.1.length : Int) ≠ 4))) || (!(ix y174.2.1 0))) || (ix y174.2.1 1)) || (!(ix y174.2.1 2))) || (!(ix y174.2.1 3))) == false)) (phX v180) (l 111) R44q := d0 rfl
    exact gstep_guard (Gj := true) (Bj := (((((((!y184) || (decide (y174.2.2 ≠ 0))) || (decide ((↑y174.1.length : Int) ≠ 4))) || (decide ((↑y174.2.1.length : Int) ≠ 4))) || (!(ix y174.2.1 0))) || (ix y174.2.1 1)) || (!(ix y174.2.1 2))) || (!(ix y174.2.1 3))) rfl rfl rfl (gtrue (d1 rfl)) rfl (fun hG hB => ph_indexR (i := (0 : Int).toNat) sl29 (show l 111 = v180 from f111g.1 (gandT rfl hB)) (sl_s (h181.mono hle)) (idx_nonneg rfl (g190 (gandT hG hB)).1) (okI_lt (g190 (gandT hG hB))))
  · intro l R45q hle ha hd
    obtain ⟨d0, d1, _⟩ := hd
    have f112g : phG (true && (((((((((!y184) || (decide (y174.2.2 ≠ 0))) || (decide ((↑y174.1.length : Int) ≠ 4))) || (decide ((↑y174.2.1.length : Int) ≠ 4))) || (!(ix y174.2.1 0))) || (ix y174.2.1 1)) || (!(ix y174.2.1 2))) || (!(ix y174.2.1 3))) == false)) (phP (tSl true (tInt .i64)) (ix y174.1 0)) (l 112) R45q := d0 rfl
    exact gstep_guard (Gj := true) (Bj := (((((((!y184) || (decide (y174.2.2 ≠ 0))) || (decide ((↑y174.1.length : Int) ≠ 4))) || (decide ((↑y174.2.1.length : Int) ≠ 4))) || (!(ix y174.2.1 0))) || (ix y174.2.1 1)) || (!(ix y174.2.1 2))) || (!(ix y174.2.1 3))) rfl rfl rfl (gtrue (d1 rfl)) rfl (fun hG hB => ph_loadR ty36 rfl (f112g.1 (gandT rfl hB)))
  · intro l R46q hle ha hd
    obtain ⟨d0, d1, d2, _⟩ := hd
    have f113g : phG (true && (((((((((!y184) || (decide (y174.2.2 ≠ 0))) || (decide ((↑y174.1.length : Int) ≠ 4))) || (decide ((↑y174.2.1.length : Int) ≠ 4))) || (!(ix y174.2.1 0))) || (ix y174.2.1 1)) || (!(ix y174.2.1 2))) || (!(ix y174.2.1 3))) == false)) (phR (tSl true (tInt .i64)) (ix y174.1 0)) (l 113) R46q := d0 rfl
    exact gstep_guard (Gj := true) (Bj := (((((((!y184) || (decide (y174.2.2 ≠ 0))) || (decide ((↑y174.1.length : Int) ≠ 4))) || (decide ((↑y174.2.1.length : Int) ≠ 4))) || (!(ix y174.2.1 0))) || (ix y174.2.1 1)) || (!(ix y174.2.1 2))) || (!(ix y174.2.1 3))) rfl rfl rfl (gtrue (d1 rfl)) rfl (fun hG hB => ph_callP (vs := [(l 113), (.int .i64 0), (.slice none 0 0), (.int .i64 0)]) en14 rfl ((by have z := (gop_def c192 (gandT hG hB)); exact c_gauntletlaw06_list (f113g.1 (gandT rfl hB)) sl_nil z)) (fun _ _ h => h))
  · intro l R47q hle ha hd
    obtain ⟨d0, d1, _⟩ := hd
    have f114g : phG (true && (((((((((!y184) || (decide (y174.2.2 ≠ 0))) || (decide ((↑y174.1.length : Int) ≠ 4))) || (decide ((↑y174.2.1.length : Int) ≠ 4))) || (!(ix y174.2.1 0))) || (ix y174.2.1 1)) || (!(ix y174.2.1 2))) || (!(ix y174.2.1 3))) == false)) (phX (.bool (y191.getD default))) (l 114) R47q := d0 rfl
    exact gstep_guard (Gj := true) (Bj := (((((((!y184) || (decide (y174.2.2 ≠ 0))) || (decide ((↑y174.1.length : Int) ≠ 4))) || (decide ((↑y174.2.1.length : Int) ≠ 4))) || (!(ix y174.2.1 0))) || (ix y174.2.1 1)) || (!(ix y174.2.1 2))) || (!(ix y174.2.1 3))) rfl rfl rfl (gtrue (d1 rfl)) rfl (fun hG hB => ph_val (val_not (show l 114 = (.bool (y191.getD default)) from f114g.1 (gandT rfl hB))))
  · intro l R48q hle ha hd
    obtain ⟨d0, d1, _⟩ := hd
    have f110 : l 110 = (.bool ((((((((!y184) || (decide (y174.2.2 ≠ 0))) || (decide ((↑y174.1.length : Int) ≠ 4))) || (decide ((↑y174.2.1.length : Int) ≠ 4))) || (!(ix y174.2.1 0))) || (ix y174.2.1 1)) || (!(ix y174.2.1 2))) || (!(ix y174.2.1 3)))) := d0 rfl
    have f115g : phG (true && (((((((((!y184) || (decide (y174.2.2 ≠ 0))) || (decide ((↑y174.1.length : Int) ≠ 4))) || (decide ((↑y174.2.1.length : Int) ≠ 4))) || (!(ix y174.2.1 0))) || (ix y174.2.1 1)) || (!(ix y174.2.1 2))) || (!(ix y174.2.1 3))) == false)) (phX (.bool (!(y191.getD default)))) (l 115) R48q := d1 rfl
    exact gstep_plain rfl rfl rfl (ph_val (val_or f110 rfl (fun hb => (show l 115 = (.bool (!(y191.getD default))) from f115g.1 (gandT rfl hb)))))
  · intro l R49q hle ha hd
    obtain ⟨d0, d1, _⟩ := hd
    have f116 : l 116 = (.bool (((((((((!y184) || (decide (y174.2.2 ≠ 0))) || (decide ((↑y174.1.length : Int) ≠ 4))) || (decide ((↑y174.2.1.length : Int) ≠ 4))) || (!(ix y174.2.1 0))) || (ix y174.2.1 1)) || (!(ix y174.2.1 2))) || (!(ix y174.2.1 3))) || (!(y191.getD default)))) := d0 rfl
    exact gstep_plain rfl rfl rfl (ph_val (val_move f116))
  · intro l R50q hle ha hd
    obtain ⟨d0, _⟩ := hd
    have a5 : l 5 = v180 := ha 5 rfl
    exact gstep_guard (Gj := true) (Bj := ((((((((!y184) || (decide (y174.2.2 ≠ 0))) || (decide ((↑y174.1.length : Int) ≠ 4))) || (decide ((↑y174.2.1.length : Int) ≠ 4))) || (!(ix y174.2.1 0))) || (ix y174.2.1 1)) || (!(ix y174.2.1 2))) || (!(ix y174.2.1 3))) || (!(y191.getD default))) rfl rfl rfl (gtrue (d0 rfl)) rfl (fun hG hB => ph_val (val_move a5))
  · intro l R51q hle ha hd
    obtain ⟨d0, d1, _⟩ := hd
    have f118g : phG (true && ((((((((((!y184) || (decide (y174.2.2 ≠ 0))) || (decide ((↑y174.1.length : Int) ≠ 4))) || (decide ((↑y174.2.1.length : Int) ≠ 4))) || (!(ix y174.2.1 0))) || (ix y174.2.1 1)) || (!(ix y174.2.1 2))) || (!(ix y174.2.1 3))) || (!(y191.getD default))) == false)) (phX v180) (l 118) R51q := d0 rfl
    exact gstep_guard (Gj := true) (Bj := ((((((((!y184) || (decide (y174.2.2 ≠ 0))) || (decide ((↑y174.1.length : Int) ≠ 4))) || (decide ((↑y174.2.1.length : Int) ≠ 4))) || (!(ix y174.2.1 0))) || (ix y174.2.1 1)) || (!(ix y174.2.1 2))) || (!(ix y174.2.1 3))) || (!(y191.getD default))) rfl rfl rfl (gtrue (d1 rfl)) rfl (fun hG hB => ph_indexR (i := (1 : Int).toNat) sl29 (show l 118 = v180 from f118g.1 (gandT rfl hB)) (sl_s (h181.mono hle)) (idx_nonneg rfl (g193 (gandT hG hB)).1) (okI_lt (g193 (gandT hG hB))))
  · intro l R52q hle ha hd
    obtain ⟨d0, d1, _⟩ := hd
    have f119g : phG (true && ((((((((((!y184) || (decide (y174.2.2 ≠ 0))) || (decide ((↑y174.1.length : Int) ≠ 4))) || (decide ((↑y174.2.1.length : Int) ≠ 4))) || (!(ix y174.2.1 0))) || (ix y174.2.1 1)) || (!(ix y174.2.1 2))) || (!(ix y174.2.1 3))) || (!(y191.getD default))) == false)) (phP (tSl true (tInt .i64)) (ix y174.1 1)) (l 119) R52q := d0 rfl
    exact gstep_guard (Gj := true) (Bj := ((((((((!y184) || (decide (y174.2.2 ≠ 0))) || (decide ((↑y174.1.length : Int) ≠ 4))) || (decide ((↑y174.2.1.length : Int) ≠ 4))) || (!(ix y174.2.1 0))) || (ix y174.2.1 1)) || (!(ix y174.2.1 2))) || (!(ix y174.2.1 3))) || (!(y191.getD default))) rfl rfl rfl (gtrue (d1 rfl)) rfl (fun hG hB => ph_loadR ty36 rfl (f119g.1 (gandT rfl hB)))
  · intro l R53q hle ha hd
    obtain ⟨d0, d1, d2, _⟩ := hd
    have f120g : phG (true && ((((((((((!y184) || (decide (y174.2.2 ≠ 0))) || (decide ((↑y174.1.length : Int) ≠ 4))) || (decide ((↑y174.2.1.length : Int) ≠ 4))) || (!(ix y174.2.1 0))) || (ix y174.2.1 1)) || (!(ix y174.2.1 2))) || (!(ix y174.2.1 3))) || (!(y191.getD default))) == false)) (phR (tSl true (tInt .i64)) (ix y174.1 1)) (l 120) R53q := d0 rfl
    exact gstep_guard (Gj := true) (Bj := ((((((((!y184) || (decide (y174.2.2 ≠ 0))) || (decide ((↑y174.1.length : Int) ≠ 4))) || (decide ((↑y174.2.1.length : Int) ≠ 4))) || (!(ix y174.2.1 0))) || (ix y174.2.1 1)) || (!(ix y174.2.1 2))) || (!(ix y174.2.1 3))) || (!(y191.getD default))) rfl rfl rfl (gtrue (d1 rfl)) rfl (fun hG hB => ph_callP (vs := [(l 120), (.int .i64 0), (.slice none 0 0), (.int .i64 0)]) en14 rfl ((by have z := (gop_def c195 (gandT hG hB)); exact c_gauntletlaw06_list (f120g.1 (gandT rfl hB)) sl_nil z)) (fun _ _ h => h))
  · intro l R54q hle ha hd
    obtain ⟨d0, d1, _⟩ := hd
    have f121g : phG (true && ((((((((((!y184) || (decide (y174.2.2 ≠ 0))) || (decide ((↑y174.1.length : Int) ≠ 4))) || (decide ((↑y174.2.1.length : Int) ≠ 4))) || (!(ix y174.2.1 0))) || (ix y174.2.1 1)) || (!(ix y174.2.1 2))) || (!(ix y174.2.1 3))) || (!(y191.getD default))) == false)) (phX (.bool (y194.getD default))) (l 121) R54q := d0 rfl
    exact gstep_guard (Gj := true) (Bj := ((((((((!y184) || (decide (y174.2.2 ≠ 0))) || (decide ((↑y174.1.length : Int) ≠ 4))) || (decide ((↑y174.2.1.length : Int) ≠ 4))) || (!(ix y174.2.1 0))) || (ix y174.2.1 1)) || (!(ix y174.2.1 2))) || (!(ix y174.2.1 3))) || (!(y191.getD default))) rfl rfl rfl (gtrue (d1 rfl)) rfl (fun hG hB => ph_val (val_not (show l 121 = (.bool (y194.getD default)) from f121g.1 (gandT rfl hB))))
  · intro l R55q hle ha hd
    obtain ⟨d0, d1, _⟩ := hd
    have f117 : l 117 = (.bool (((((((((!y184) || (decide (y174.2.2 ≠ 0))) || (decide ((↑y174.1.length : Int) ≠ 4))) || (decide ((↑y174.2.1.length : Int) ≠ 4))) || (!(ix y174.2.1 0))) || (ix y174.2.1 1)) || (!(ix y174.2.1 2))) || (!(ix y174.2.1 3))) || (!(y191.getD default)))) := d0 rfl
    have f122g : phG (true && ((((((((((!y184) || (decide (y174.2.2 ≠ 0))) || (decide ((↑y174.1.length : Int) ≠ 4))) || (decide ((↑y174.2.1.length : Int) ≠ 4))) || (!(ix y174.2.1 0))) || (ix y174.2.1 1)) || (!(ix y174.2.1 2))) || (!(ix y174.2.1 3))) || (!(y191.getD default))) == false)) (phX (.bool (!(y194.getD default)))) (l 122) R55q := d1 rfl
    exact gstep_plain rfl rfl rfl (ph_val (val_or f117 rfl (fun hb => (show l 122 = (.bool (!(y194.getD default))) from f122g.1 (gandT rfl hb)))))
  · intro l R56q hle ha hd
    obtain ⟨d0, d1, _⟩ := hd
    have f123 : l 123 = (.bool ((((((((((!y184) || (decide (y174.2.2 ≠ 0))) || (decide ((↑y174.1.length : Int) ≠ 4))) || (decide ((↑y174.2.1.length : Int) ≠ 4))) || (!(ix y174.2.1 0))) || (ix y174.2.1 1)) || (!(ix y174.2.1 2))) || (!(ix y174.2.1 3))) || (!(y191.getD default))) || (!(y194.getD default)))) := d0 rfl
    exact gstep_plain rfl rfl rfl (ph_val (val_move f123))
  · intro l R57q hle ha hd
    obtain ⟨d0, _⟩ := hd
    have a5 : l 5 = v180 := ha 5 rfl
    exact gstep_guard (Gj := true) (Bj := (((((((((!y184) || (decide (y174.2.2 ≠ 0))) || (decide ((↑y174.1.length : Int) ≠ 4))) || (decide ((↑y174.2.1.length : Int) ≠ 4))) || (!(ix y174.2.1 0))) || (ix y174.2.1 1)) || (!(ix y174.2.1 2))) || (!(ix y174.2.1 3))) || (!(y191.getD default))) || (!(y194.getD default))) rfl rfl rfl (gtrue (d0 rfl)) rfl (fun hG hB => ph_val (val_move a5))
  · intro l R58q hle ha hd
    obtain ⟨d0, d1, _⟩ := hd
    have f125g : phG (true && (((((((((((!y184) || (decide (y174.2.2 ≠ 0))) || (decide ((↑y174.1.length : Int) ≠ 4))) || (decide ((↑y174.2.1.length : Int) ≠ 4))) || (!(ix y174.2.1 0))) || (ix y174.2.1 1)) || (!(ix y174.2.1 2))) || (!(ix y174.2.1 3))) || (!(y191.getD default))) || (!(y194.getD default))) == false)) (phX v180) (l 125) R58q := d0 rfl
    exact gstep_guard (Gj := true) (Bj := (((((((((!y184) || (decide (y174.2.2 ≠ 0))) || (decide ((↑y174.1.length : Int) ≠ 4))) || (decide ((↑y174.2.1.length : Int) ≠ 4))) || (!(ix y174.2.1 0))) || (ix y174.2.1 1)) || (!(ix y174.2.1 2))) || (!(ix y174.2.1 3))) || (!(y191.getD default))) || (!(y194.getD default))) rfl rfl rfl (gtrue (d1 rfl)) rfl (fun hG hB => ph_indexR (i := (2 : Int).toNat) sl29 (show l 125 = v180 from f125g.1 (gandT rfl hB)) (sl_s (h181.mono hle)) (idx_nonneg rfl (g196 (gandT hG hB)).1) (okI_lt (g196 (gandT hG hB))))
  · intro l R59q hle ha hd
    obtain ⟨d0, d1, _⟩ := hd
    have f126g : phG (true && (((((((((((!y184) || (decide (y174.2.2 ≠ 0))) || (decide ((↑y174.1.length : Int) ≠ 4))) || (decide ((↑y174.2.1.length : Int) ≠ 4))) || (!(ix y174.2.1 0))) || (ix y174.2.1 1)) || (!(ix y174.2.1 2))) || (!(ix y174.2.1 3))) || (!(y191.getD default))) || (!(y194.getD default))) == false)) (phP (tSl true (tInt .i64)) (ix y174.1 2)) (l 126) R59q := d0 rfl
    exact gstep_guard (Gj := true) (Bj := (((((((((!y184) || (decide (y174.2.2 ≠ 0))) || (decide ((↑y174.1.length : Int) ≠ 4))) || (decide ((↑y174.2.1.length : Int) ≠ 4))) || (!(ix y174.2.1 0))) || (ix y174.2.1 1)) || (!(ix y174.2.1 2))) || (!(ix y174.2.1 3))) || (!(y191.getD default))) || (!(y194.getD default))) rfl rfl rfl (gtrue (d1 rfl)) rfl (fun hG hB => ph_loadR ty36 rfl (f126g.1 (gandT rfl hB)))
  · intro l R60q hle ha hd
    obtain ⟨d0, _⟩ := hd
    exact gstep_guard (Gj := true) (Bj := (((((((((!y184) || (decide (y174.2.2 ≠ 0))) || (decide ((↑y174.1.length : Int) ≠ 4))) || (decide ((↑y174.2.1.length : Int) ≠ 4))) || (!(ix y174.2.1 0))) || (ix y174.2.1 1)) || (!(ix y174.2.1 2))) || (!(ix y174.2.1 3))) || (!(y191.getD default))) || (!(y194.getD default))) rfl rfl rfl (gtrue (d0 rfl)) rfl (fun hG hB => ph_litT (T := (tInt .i64)) (X := ([0] : List Int)) (ps := [(0, (.int .i64 0))]) (css := [[(.int .i64 0)]]) Try.underlying36 zo3 rfl rfl (lit_reps ⟨rfl, trivial⟩) rfl rfl (by decide))
  · intro l R61q hle ha hd
    obtain ⟨d0, d1, d2, d3, _⟩ := hd
    have f127g : phG (true && (((((((((((!y184) || (decide (y174.2.2 ≠ 0))) || (decide ((↑y174.1.length : Int) ≠ 4))) || (decide ((↑y174.2.1.length : Int) ≠ 4))) || (!(ix y174.2.1 0))) || (ix y174.2.1 1)) || (!(ix y174.2.1 2))) || (!(ix y174.2.1 3))) || (!(y191.getD default))) || (!(y194.getD default))) == false)) (phR (tSl true (tInt .i64)) (ix y174.1 2)) (l 127) R61q := d0 rfl
    have f128g : phG (true && (((((((((((!y184) || (decide (y174.2.2 ≠ 0))) || (decide ((↑y174.1.length : Int) ≠ 4))) || (decide ((↑y174.2.1.length : Int) ≠ 4))) || (!(ix y174.2.1 0))) || (ix y174.2.1 1)) || (!(ix y174.2.1 2))) || (!(ix y174.2.1 3))) || (!(y191.getD default))) || (!(y194.getD default))) == false)) (phR (tSl true (tInt .i64)) ([0] : List Int)) (l 128) R61q := d1 rfl
    exact gstep_guard (Gj := true) (Bj := (((((((((!y184) || (decide (y174.2.2 ≠ 0))) || (decide ((↑y174.1.length : Int) ≠ 4))) || (decide ((↑y174.2.1.length : Int) ≠ 4))) || (!(ix y174.2.1 0))) || (ix y174.2.1 1)) || (!(ix y174.2.1 2))) || (!(ix y174.2.1 3))) || (!(y191.getD default))) || (!(y194.getD default))) rfl rfl rfl (gtrue (d2 rfl)) rfl (fun hG hB => ph_callP (vs := [(l 127), (.int .i64 0), (l 128), (.int .i64 0)]) en14 rfl ((by have z := (gop_def c198 (gandT hG hB)); exact c_gauntletlaw06_list (f127g.1 (gandT rfl hB)) (Sub.v (B := (tSl false (tInt .i64))) (sub_sl Sub.refl (fun _ => rfl)) (f128g.1 (gandT rfl hB))) z)) (fun _ _ h => h))
  · intro l R62q hle ha hd
    obtain ⟨d0, d1, _⟩ := hd
    have f129g : phG (true && (((((((((((!y184) || (decide (y174.2.2 ≠ 0))) || (decide ((↑y174.1.length : Int) ≠ 4))) || (decide ((↑y174.2.1.length : Int) ≠ 4))) || (!(ix y174.2.1 0))) || (ix y174.2.1 1)) || (!(ix y174.2.1 2))) || (!(ix y174.2.1 3))) || (!(y191.getD default))) || (!(y194.getD default))) == false)) (phX (.bool (y197.getD default))) (l 129) R62q := d0 rfl
    exact gstep_guard (Gj := true) (Bj := (((((((((!y184) || (decide (y174.2.2 ≠ 0))) || (decide ((↑y174.1.length : Int) ≠ 4))) || (decide ((↑y174.2.1.length : Int) ≠ 4))) || (!(ix y174.2.1 0))) || (ix y174.2.1 1)) || (!(ix y174.2.1 2))) || (!(ix y174.2.1 3))) || (!(y191.getD default))) || (!(y194.getD default))) rfl rfl rfl (gtrue (d1 rfl)) rfl (fun hG hB => ph_val (val_not (show l 129 = (.bool (y197.getD default)) from f129g.1 (gandT rfl hB))))
  · intro l R63q hle ha hd
    obtain ⟨d0, d1, _⟩ := hd
    have f124 : l 124 = (.bool ((((((((((!y184) || (decide (y174.2.2 ≠ 0))) || (decide ((↑y174.1.length : Int) ≠ 4))) || (decide ((↑y174.2.1.length : Int) ≠ 4))) || (!(ix y174.2.1 0))) || (ix y174.2.1 1)) || (!(ix y174.2.1 2))) || (!(ix y174.2.1 3))) || (!(y191.getD default))) || (!(y194.getD default)))) := d0 rfl
    have f130g : phG (true && (((((((((((!y184) || (decide (y174.2.2 ≠ 0))) || (decide ((↑y174.1.length : Int) ≠ 4))) || (decide ((↑y174.2.1.length : Int) ≠ 4))) || (!(ix y174.2.1 0))) || (ix y174.2.1 1)) || (!(ix y174.2.1 2))) || (!(ix y174.2.1 3))) || (!(y191.getD default))) || (!(y194.getD default))) == false)) (phX (.bool (!(y197.getD default)))) (l 130) R63q := d1 rfl
    exact gstep_plain rfl rfl rfl (ph_val (val_or f124 rfl (fun hb => (show l 130 = (.bool (!(y197.getD default))) from f130g.1 (gandT rfl hb)))))
  · intro l R64q hle ha hd
    obtain ⟨d0, d1, _⟩ := hd
    have f131 : l 131 = (.bool (((((((((((!y184) || (decide (y174.2.2 ≠ 0))) || (decide ((↑y174.1.length : Int) ≠ 4))) || (decide ((↑y174.2.1.length : Int) ≠ 4))) || (!(ix y174.2.1 0))) || (ix y174.2.1 1)) || (!(ix y174.2.1 2))) || (!(ix y174.2.1 3))) || (!(y191.getD default))) || (!(y194.getD default))) || (!(y197.getD default)))) := d0 rfl
    exact gstep_plain rfl rfl rfl (ph_val (val_move f131))
  · intro l R65q hle ha hd
    obtain ⟨d0, _⟩ := hd
    have a5 : l 5 = v180 := ha 5 rfl
    exact gstep_guard (Gj := true) (Bj := ((((((((((!y184) || (decide (y174.2.2 ≠ 0))) || (decide ((↑y174.1.length : Int) ≠ 4))) || (decide ((↑y174.2.1.length : Int) ≠ 4))) || (!(ix y174.2.1 0))) || (ix y174.2.1 1)) || (!(ix y174.2.1 2))) || (!(ix y174.2.1 3))) || (!(y191.getD default))) || (!(y194.getD default))) || (!(y197.getD default))) rfl rfl rfl (gtrue (d0 rfl)) rfl (fun hG hB => ph_val (val_move a5))
  · intro l R66q hle ha hd
    obtain ⟨d0, d1, _⟩ := hd
    have f133g : phG (true && ((((((((((((!y184) || (decide (y174.2.2 ≠ 0))) || (decide ((↑y174.1.length : Int) ≠ 4))) || (decide ((↑y174.2.1.length : Int) ≠ 4))) || (!(ix y174.2.1 0))) || (ix y174.2.1 1)) || (!(ix y174.2.1 2))) || (!(ix y174.2.1 3))) || (!(y191.getD default))) || (!(y194.getD default))) || (!(y197.getD default))) == false)) (phX v180) (l 133) R66q := d0 rfl
    exact gstep_guard (Gj := true) (Bj := ((((((((((!y184) || (decide (y174.2.2 ≠ 0))) || (decide ((↑y174.1.length : Int) ≠ 4))) || (decide ((↑y174.2.1.length : Int) ≠ 4))) || (!(ix y174.2.1 0))) || (ix y174.2.1 1)) || (!(ix y174.2.1 2))) || (!(ix y174.2.1 3))) || (!(y191.getD default))) || (!(y194.getD default))) || (!(y197.getD default))) rfl rfl rfl (gtrue (d1 rfl)) rfl (fun hG hB => ph_indexR (i := (3 : Int).toNat) sl29 (show l 133 = v180 from f133g.1 (gandT rfl hB)) (sl_s (h181.mono hle)) (idx_nonneg rfl (g199 (gandT hG hB)).1) (okI_lt (g199 (gandT hG hB))))
  · intro l R67q hle ha hd
    obtain ⟨d0, d1, _⟩ := hd
    have f134g : phG (true && ((((((((((((!y184) || (decide (y174.2.2 ≠ 0))) || (decide ((↑y174.1.length : Int) ≠ 4))) || (decide ((↑y174.2.1.length : Int) ≠ 4))) || (!(ix y174.2.1 0))) || (ix y174.2.1 1)) || (!(ix y174.2.1 2))) || (!(ix y174.2.1 3))) || (!(y191.getD default))) || (!(y194.getD default))) || (!(y197.getD default))) == false)) (phP (tSl true (tInt .i64)) (ix y174.1 3)) (l 134) R67q := d0 rfl
    exact gstep_guard (Gj := true) (Bj := ((((((((((!y184) || (decide (y174.2.2 ≠ 0))) || (decide ((↑y174.1.length : Int) ≠ 4))) || (decide ((↑y174.2.1.length : Int) ≠ 4))) || (!(ix y174.2.1 0))) || (ix y174.2.1 1)) || (!(ix y174.2.1 2))) || (!(ix y174.2.1 3))) || (!(y191.getD default))) || (!(y194.getD default))) || (!(y197.getD default))) rfl rfl rfl (gtrue (d1 rfl)) rfl (fun hG hB => ph_loadR ty36 rfl (f134g.1 (gandT rfl hB)))
  · intro l R68q hle ha hd
    obtain ⟨d0, _⟩ := hd
    exact gstep_guard (Gj := true) (Bj := ((((((((((!y184) || (decide (y174.2.2 ≠ 0))) || (decide ((↑y174.1.length : Int) ≠ 4))) || (decide ((↑y174.2.1.length : Int) ≠ 4))) || (!(ix y174.2.1 0))) || (ix y174.2.1 1)) || (!(ix y174.2.1 2))) || (!(ix y174.2.1 3))) || (!(y191.getD default))) || (!(y194.getD default))) || (!(y197.getD default))) rfl rfl rfl (gtrue (d0 rfl)) rfl (fun hG hB => ph_litT (T := (tInt .i64)) (X := ([0, 1] : List Int)) (ps := [(0, (.int .i64 0)), (1, (.int .i64 1))]) (css := [[(.int .i64 0)], [(.int .i64 1)]]) Try.underlying36 zo3 rfl rfl (lit_reps ⟨rfl, rfl, trivial⟩) rfl rfl (by decide))
  · intro l R69q hle ha hd
    obtain ⟨d0, d1, d2, d3, _⟩ := hd
    have f135g : phG (true && ((((((((((((!y184) || (decide (y174.2.2 ≠ 0))) || (decide ((↑y174.1.length : Int) ≠ 4))) || (decide ((↑y174.2.1.length : Int) ≠ 4))) || (!(ix y174.2.1 0))) || (ix y174.2.1 1)) || (!(ix y174.2.1 2))) || (!(ix y174.2.1 3))) || (!(y191.getD default))) || (!(y194.getD default))) || (!(y197.getD default))) == false)) (phR (tSl true (tInt .i64)) (ix y174.1 3)) (l 135) R69q := d0 rfl
    have f136g : phG (true && ((((((((((((!y184) || (decide (y174.2.2 ≠ 0))) || (decide ((↑y174.1.length : Int) ≠ 4))) || (decide ((↑y174.2.1.length : Int) ≠ 4))) || (!(ix y174.2.1 0))) || (ix y174.2.1 1)) || (!(ix y174.2.1 2))) || (!(ix y174.2.1 3))) || (!(y191.getD default))) || (!(y194.getD default))) || (!(y197.getD default))) == false)) (phR (tSl true (tInt .i64)) ([0, 1] : List Int)) (l 136) R69q := d1 rfl
    exact gstep_guard (Gj := true) (Bj := ((((((((((!y184) || (decide (y174.2.2 ≠ 0))) || (decide ((↑y174.1.length : Int) ≠ 4))) || (decide ((↑y174.2.1.length : Int) ≠ 4))) || (!(ix y174.2.1 0))) || (ix y174.2.1 1)) || (!(ix y174.2.1 2))) || (!(ix y174.2.1 3))) || (!(y191.getD default))) || (!(y194.getD default))) || (!(y197.getD default))) rfl rfl rfl (gtrue (d2 rfl)) rfl (fun hG hB => ph_callP (vs := [(l 135), (.int .i64 0), (l 136), (.int .i64 0)]) en14 rfl ((by have z := (gop_def c201 (gandT hG hB)); exact c_gauntletlaw06_list (f135g.1 (gandT rfl hB)) (Sub.v (B := (tSl false (tInt .i64))) (sub_sl Sub.refl (fun _ => rfl)) (f136g.1 (gandT rfl hB))) z)) (fun _ _ h => h))
  · intro l R70q hle ha hd
    obtain ⟨d0, d1, _⟩ := hd
    have f137g : phG (true && ((((((((((((!y184) || (decide (y174.2.2 ≠ 0))) || (decide ((↑y174.1.length : Int) ≠ 4))) || (decide ((↑y174.2.1.length : Int) ≠ 4))) || (!(ix y174.2.1 0))) || (ix y174.2.1 1)) || (!(ix y174.2.1 2))) || (!(ix y174.2.1 3))) || (!(y191.getD default))) || (!(y194.getD default))) || (!(y197.getD default))) == false)) (phX (.bool (y200.getD default))) (l 137) R70q := d0 rfl
    exact gstep_guard (Gj := true) (Bj := ((((((((((!y184) || (decide (y174.2.2 ≠ 0))) || (decide ((↑y174.1.length : Int) ≠ 4))) || (decide ((↑y174.2.1.length : Int) ≠ 4))) || (!(ix y174.2.1 0))) || (ix y174.2.1 1)) || (!(ix y174.2.1 2))) || (!(ix y174.2.1 3))) || (!(y191.getD default))) || (!(y194.getD default))) || (!(y197.getD default))) rfl rfl rfl (gtrue (d1 rfl)) rfl (fun hG hB => ph_val (val_not (show l 137 = (.bool (y200.getD default)) from f137g.1 (gandT rfl hB))))
  · intro l R71q hle ha hd
    obtain ⟨d0, d1, _⟩ := hd
    have f132 : l 132 = (.bool (((((((((((!y184) || (decide (y174.2.2 ≠ 0))) || (decide ((↑y174.1.length : Int) ≠ 4))) || (decide ((↑y174.2.1.length : Int) ≠ 4))) || (!(ix y174.2.1 0))) || (ix y174.2.1 1)) || (!(ix y174.2.1 2))) || (!(ix y174.2.1 3))) || (!(y191.getD default))) || (!(y194.getD default))) || (!(y197.getD default)))) := d0 rfl
    have f138g : phG (true && ((((((((((((!y184) || (decide (y174.2.2 ≠ 0))) || (decide ((↑y174.1.length : Int) ≠ 4))) || (decide ((↑y174.2.1.length : Int) ≠ 4))) || (!(ix y174.2.1 0))) || (ix y174.2.1 1)) || (!(ix y174.2.1 2))) || (!(ix y174.2.1 3))) || (!(y191.getD default))) || (!(y194.getD default))) || (!(y197.getD default))) == false)) (phX (.bool (!(y200.getD default)))) (l 138) R71q := d1 rfl
    exact gstep_plain rfl rfl rfl (ph_val (val_or f132 rfl (fun hb => (show l 138 = (.bool (!(y200.getD default))) from f138g.1 (gandT rfl hb)))))
  intro v204 h205
  intro v206 h207
  intro v208 h209
  intro v210 h211
  intro v212 h213
  intro v214 h215
  intro v216 h217
  intro v218 h219
  intro v220 h221
  intro v222 h223
  intro v224 h225
  intro v226 h227
  intro v228 h229
  intro v230 h231
  intro v232 h233
  intro v234 h235
  intro v236 h237
  intro v238 h239
  intro v240 h241
  intro v242 h243
  intro v244 h245
  intro v246 h247
  intro v248 h249
  intro v250 h251
  intro v252 h253
  intro v254 h255
  intro v256 h257
  intro v258 h259
  intro v260 h261
  intro v262 h263
  intro v264 h265
  intro v266 h267
  intro v268 h269
  intro v270 h271
  intro v272 h273
  intro v274 h275
  intro v276 h277
  intro v278 h279
  intro v280 h281
  intro v282 h283
  intro v284 h285
  intro v286 h287
  intro v288 h289
  intro v290 h291
  intro v292 h293
  intro v294 h295
  intro v296 h297
  intro v298 h299
  intro v300 h301
  intro v302 h303
  intro v304 h305
  intro v306 h307
  intro v308 h309
  intro v310 h311
  intro v312 h313
  intro v314 h315
  intro v316 h317
  intro v318 h319
  intro v320 h321
  intro v322 h323
  intro v324 h325
  intro v326 h327
  intro v328 h329
  intro v330 h331
  intro v332 h333
  intro v334 h335
  intro v336 h337
  intro v338 h339
  intro v340 h341
  intro v342 h343
  intro v344 h345
  intro v346 h347
  obtain rfl := Eq.symm h205
  obtain rfl := Eq.symm h207
  obtain rfl := Eq.symm h211
  obtain rfl := Eq.symm h213
  obtain rfl := Eq.symm h215
  obtain rfl := Eq.symm h221
  obtain rfl := Eq.symm h223
  obtain rfl := Eq.symm h231
  obtain rfl := Eq.symm h233
  obtain rfl := Eq.symm h241
  obtain rfl := Eq.symm h243
  obtain rfl := Eq.symm h253
  obtain rfl := Eq.symm h255
  obtain rfl := Eq.symm h263
  obtain rfl := Eq.symm h265
  obtain rfl := Eq.symm h275
  obtain rfl := Eq.symm h277
  obtain rfl := Eq.symm h287
  obtain rfl := Eq.symm h289
  obtain rfl := Eq.symm h301
  obtain rfl := Eq.symm h303
  obtain rfl := Eq.symm h315
  obtain rfl := Eq.symm h317
  obtain rfl := Eq.symm h331
  obtain rfl := Eq.symm h333
  obtain rfl := Eq.symm h347
  refine wo_nil ?_
  refine wg_cond rfl (fun e348 => ?_) (fun e348 => ?_)
  · replace hd0 := sel_t e348 hd0; clear e348
    as_aux_lemma =>
      refine wg_seq ?_
      refine wg_region ?_
      refine wo_v rfl (val_assign (v := (.bool false)) rfl) ?_
      refine wo_nil ?_
      refine wg_ret ?_
      obtain rfl := Option.some.inj hd0
      refine body_end (D := []) (J := [box b160 [(.int .i64 2), (.int .i64 2), v155] 27, f156, box b90 [(.int .i64 2), (.int .i64 2), v85] 27]) (rs := [.tmp 0]) (vs := [(.bool false)]) ((((((((((((((((((((((((le6.trans le12).trans le23).trans le29).trans le40).trans le46).trans le57).trans le63).trans le70).trans le74).trans le78).trans le82).trans le97).trans le103).trans le114).trans le120).trans le131).trans le137).trans le144).trans le148).trans le152).trans le163).trans le171).trans le179).trans le203) rfl rfl ⟨rfl, trivial⟩ ?_
      exact ⟨rfl, rfl⟩
  · replace hd0 := sel_f e348 hd0; clear e348
    as_aux_lemma =>
      refine wg_skip ?_
      refine wg_seq ?_
      refine wg_region ?_
      refine wo_v rfl (val_loadBA (i := 2) ag27 sz27 rfl rfl rfl rfl) ?_
      replace hd0 := bd_some hd0; obtain ⟨y349, c350, hd0⟩ := hd0
      refine wo_callP rfl en19 rfl (c_walks_Path (⟨_, ⟨_, _, rfl, rfl, ⟨_, _, rfl, rfl, (rep_one rfl (Sub.v (B := (tSl false (tSl false kEdge))) (sub_sl (sub_sl Sub.refl (fun _ => rfl)) (fun _ => rfl)) (h165.mono ((le171.trans le179).trans le203))))⟩⟩, rfl⟩ : VRep (kMach false false) _ _ (⟨2, 2, ([([(⟨y1.to, y1.out⟩ : Edge), (⟨y7.to, y7.out⟩ : Edge)] : List Edge), ([(⟨y18.to, y18.out⟩ : Edge), (⟨y24.to, y24.out⟩ : Edge)] : List Edge), ([(⟨y35.to, y35.out⟩ : Edge), (⟨y41.to, y41.out⟩ : Edge)] : List Edge), ([(⟨y52.to, y52.out⟩ : Edge), (⟨y58.to, y58.out⟩ : Edge)] : List Edge)] : List (List Edge))⟩ : Mach)) c350) fun v351 R353 le354 h352 => ?_
      obtain ⟨v355, rfl, h356⟩ := h352
      refine wo_v rfl (val_move (v := (.tuple #[v355, (.bool y349.2.1), (.int .i64 y349.2.2)])) rfl) ?_
      refine wo_v rfl (val_extract rfl rfl) ?_
      refine wo_v rfl (val_extract rfl rfl) ?_
      refine wo_v rfl (val_extract rfl rfl) ?_
      refine wo_v rfl (val_assign (v := v355) rfl) ?_
      refine wo_v rfl (val_assign (v := (.bool y349.2.1)) rfl) ?_
      refine wo_v rfl (val_assign (v := (.int .i64 y349.2.2)) rfl) ?_
      refine wo_nil ?_
      refine wg_seq ?_
      refine wg_region ?_
      refine wo_v rfl (val_loadBA (i := 2) ag27 sz27 rfl rfl rfl rfl) ?_
      replace hd0 := bd_some hd0; obtain ⟨y357, c358, hd0⟩ := hd0
      refine wo_callP rfl en19 rfl (c_walks_Path (⟨_, ⟨_, _, rfl, rfl, ⟨_, _, rfl, rfl, (rep_one rfl (Sub.v (B := (tSl false (tSl false kEdge))) (sub_sl (sub_sl Sub.refl (fun _ => rfl)) (fun _ => rfl)) (h165.mono (((le171.trans le179).trans le203).trans le354))))⟩⟩, rfl⟩ : VRep (kMach false false) _ _ (⟨2, 2, ([([(⟨y1.to, y1.out⟩ : Edge), (⟨y7.to, y7.out⟩ : Edge)] : List Edge), ([(⟨y18.to, y18.out⟩ : Edge), (⟨y24.to, y24.out⟩ : Edge)] : List Edge), ([(⟨y35.to, y35.out⟩ : Edge), (⟨y41.to, y41.out⟩ : Edge)] : List Edge), ([(⟨y52.to, y52.out⟩ : Edge), (⟨y58.to, y58.out⟩ : Edge)] : List Edge)] : List (List Edge))⟩ : Mach)) c358) fun v359 R361 le362 h360 => ?_
      obtain ⟨v363, rfl, h364⟩ := h360
      refine wo_v rfl (val_move (v := (.tuple #[v363, (.bool y357.2.1), (.int .i64 y357.2.2)])) rfl) ?_
      refine wo_v rfl (val_extract rfl rfl) ?_
      refine wo_v rfl (val_extract rfl rfl) ?_
      refine wo_v rfl (val_extract rfl rfl) ?_
      refine wo_v rfl (val_assign (v := v363) rfl) ?_
      refine wo_v rfl (val_assign (v := (.bool y357.2.1)) rfl) ?_
      refine wo_v rfl (val_assign (v := (.int .i64 y357.2.2)) rfl) ?_
      refine wo_nil ?_
      refine wg_seq ?_
      refine wg_region ?_
      refine wo_v rfl (val_loadBA (i := 2) ag27 sz27 rfl rfl rfl rfl) ?_
      replace hd0 := bd_some hd0; obtain ⟨y365, c366, hd0⟩ := hd0
      refine wo_callP rfl en19 rfl (c_walks_Path (⟨_, ⟨_, _, rfl, rfl, ⟨_, _, rfl, rfl, (rep_one rfl (Sub.v (B := (tSl false (tSl false kEdge))) (sub_sl (sub_sl Sub.refl (fun _ => rfl)) (fun _ => rfl)) (h165.mono ((((le171.trans le179).trans le203).trans le354).trans le362))))⟩⟩, rfl⟩ : VRep (kMach false false) _ _ (⟨2, 2, ([([(⟨y1.to, y1.out⟩ : Edge), (⟨y7.to, y7.out⟩ : Edge)] : List Edge), ([(⟨y18.to, y18.out⟩ : Edge), (⟨y24.to, y24.out⟩ : Edge)] : List Edge), ([(⟨y35.to, y35.out⟩ : Edge), (⟨y41.to, y41.out⟩ : Edge)] : List Edge), ([(⟨y52.to, y52.out⟩ : Edge), (⟨y58.to, y58.out⟩ : Edge)] : List Edge)] : List (List Edge))⟩ : Mach)) c366) fun v367 R369 le370 h368 => ?_
      obtain ⟨v371, rfl, h372⟩ := h368
      refine wo_v rfl (val_move (v := (.tuple #[v371, (.bool y365.2.1), (.int .i64 y365.2.2)])) rfl) ?_
      refine wo_v rfl (val_extract rfl rfl) ?_
      refine wo_v rfl (val_extract rfl rfl) ?_
      refine wo_v rfl (val_extract rfl rfl) ?_
      refine wo_v rfl (val_assign (v := v371) rfl) ?_
      refine wo_v rfl (val_assign (v := (.bool y365.2.1)) rfl) ?_
      refine wo_v rfl (val_assign (v := (.int .i64 y365.2.2)) rfl) ?_
      refine wo_nil ?_
      refine wg_seq ?_
      refine wg_region ?_
      refine wo_v rfl (val_loadBA (i := 2) ag27 sz27 rfl rfl rfl rfl) ?_
      replace hd0 := bd_some hd0; obtain ⟨y373, c374, hd0⟩ := hd0
      refine wo_callP rfl en19 rfl (c_walks_Path (⟨_, ⟨_, _, rfl, rfl, ⟨_, _, rfl, rfl, (rep_one rfl (Sub.v (B := (tSl false (tSl false kEdge))) (sub_sl (sub_sl Sub.refl (fun _ => rfl)) (fun _ => rfl)) (h165.mono (((((le171.trans le179).trans le203).trans le354).trans le362).trans le370))))⟩⟩, rfl⟩ : VRep (kMach false false) _ _ (⟨2, 2, ([([(⟨y1.to, y1.out⟩ : Edge), (⟨y7.to, y7.out⟩ : Edge)] : List Edge), ([(⟨y18.to, y18.out⟩ : Edge), (⟨y24.to, y24.out⟩ : Edge)] : List Edge), ([(⟨y35.to, y35.out⟩ : Edge), (⟨y41.to, y41.out⟩ : Edge)] : List Edge), ([(⟨y52.to, y52.out⟩ : Edge), (⟨y58.to, y58.out⟩ : Edge)] : List Edge)] : List (List Edge))⟩ : Mach)) c374) fun v375 R377 le378 h376 => ?_
      obtain ⟨v379, rfl, h380⟩ := h376
      refine wo_v rfl (val_move (v := (.tuple #[v379, (.bool y373.2.1), (.int .i64 y373.2.2)])) rfl) ?_
      refine wo_v rfl (val_extract rfl rfl) ?_
      refine wo_v rfl (val_extract rfl rfl) ?_
      refine wo_v rfl (val_extract rfl rfl) ?_
      refine wo_v rfl (val_assign (v := v379) rfl) ?_
      refine wo_v rfl (val_assign (v := (.bool y373.2.1)) rfl) ?_
      refine wo_v rfl (val_assign (v := (.int .i64 y373.2.2)) rfl) ?_
      refine wo_nil ?_
      refine wg_seq ?_
      refine wg_region ?_
      refine wo_v rfl (val_loadBA (i := 2) ag27 sz27 rfl rfl rfl rfl) ?_
      replace hd0 := bd_some hd0; obtain ⟨y381, c382, hd0⟩ := hd0
      refine wo_callP rfl en20 rfl (c_walks_Distances (⟨_, ⟨_, _, rfl, rfl, ⟨_, _, rfl, rfl, (rep_one rfl (Sub.v (B := (tSl false (tSl false kEdge))) (sub_sl (sub_sl Sub.refl (fun _ => rfl)) (fun _ => rfl)) (h165.mono ((((((le171.trans le179).trans le203).trans le354).trans le362).trans le370).trans le378))))⟩⟩, rfl⟩ : VRep (kMach false false) _ _ (⟨2, 2, ([([(⟨y1.to, y1.out⟩ : Edge), (⟨y7.to, y7.out⟩ : Edge)] : List Edge), ([(⟨y18.to, y18.out⟩ : Edge), (⟨y24.to, y24.out⟩ : Edge)] : List Edge), ([(⟨y35.to, y35.out⟩ : Edge), (⟨y41.to, y41.out⟩ : Edge)] : List Edge), ([(⟨y52.to, y52.out⟩ : Edge), (⟨y58.to, y58.out⟩ : Edge)] : List Edge)] : List (List Edge))⟩ : Mach)) c382) fun v383 R385 le386 h384 => ?_
      obtain ⟨v387, rfl, h388⟩ := h384
      refine wo_v rfl (val_move (v := (.tuple #[v387, (.int .i64 y381.2)])) rfl) ?_
      refine wo_v rfl (val_extract rfl rfl) ?_
      refine wo_v rfl (val_extract rfl rfl) ?_
      refine wo_v rfl (val_assign (v := v387) rfl) ?_
      refine wo_v rfl (val_assign (v := (.int .i64 y381.2)) rfl) ?_
      refine wo_nil ?_
      refine wg_seq ?_
      refine wg_region ?_
      refine wo_v rfl (val_loadBA (i := 2) ag27 sz27 rfl rfl rfl rfl) ?_
      replace hd0 := bd_some hd0; obtain ⟨y389, c390, hd0⟩ := hd0
      refine wo_callP rfl en23 rfl (c_walks_Trim (⟨_, ⟨_, _, rfl, rfl, ⟨_, _, rfl, rfl, (rep_one rfl (Sub.v (B := (tSl false (tSl false kEdge))) (sub_sl (sub_sl Sub.refl (fun _ => rfl)) (fun _ => rfl)) (h165.mono (((((((le171.trans le179).trans le203).trans le354).trans le362).trans le370).trans le378).trans le386))))⟩⟩, rfl⟩ : VRep (kMach false false) _ _ (⟨2, 2, ([([(⟨y1.to, y1.out⟩ : Edge), (⟨y7.to, y7.out⟩ : Edge)] : List Edge), ([(⟨y18.to, y18.out⟩ : Edge), (⟨y24.to, y24.out⟩ : Edge)] : List Edge), ([(⟨y35.to, y35.out⟩ : Edge), (⟨y41.to, y41.out⟩ : Edge)] : List Edge), ([(⟨y52.to, y52.out⟩ : Edge), (⟨y58.to, y58.out⟩ : Edge)] : List Edge)] : List (List Edge))⟩ : Mach)) c390) fun v391 R393 le394 h392 => ?_
      obtain ⟨v395, v397, rfl, h396, h398⟩ := h392
      refine wo_v rfl (val_move (v := (.tuple #[v395, v397, (.int .i64 y389.2.2)])) rfl) ?_
      refine wo_v rfl (val_extract rfl rfl) ?_
      refine wo_v rfl (val_extract rfl rfl) ?_
      refine wo_v rfl (val_extract rfl rfl) ?_
      refine wo_alloc rfl za27 fun b399 => ?_
      obtain ⟨v401, rfl, h402⟩ := cases_Mach h396
      refine wo_store (i := 0) (vs := [(.int .i64 y389.1.inputs), (.int .i64 y389.1.outputs), v401]) sz27 rfl rfl rfl rfl rfl rfl (one_cons rfl (one_cons rfl (one_cons (sl_one h402) one_nil))) ?_
      refine wo_v rfl (val_assign (v := v397) rfl) ?_
      refine wo_v rfl (val_assign (v := (.int .i64 y389.2.2)) rfl) ?_
      refine wo_nil ?_
      refine wg_seq ?_
      refine wg_region ?_
      refine wo_v rfl (val_loadBA (i := 3) ag27 sz27 rfl rfl rfl rfl) ?_
      replace hd0 := bd_some hd0; obtain ⟨y403, c404, hd0⟩ := hd0
      refine wo_callP rfl en28 rfl (c_walks_Canonical (⟨_, ⟨_, _, rfl, rfl, ⟨_, _, rfl, rfl, (rep_one rfl (Sub.v (B := (tSl false (tSl false kEdge))) (sub_sl (sub_sl Sub.refl (fun _ => rfl)) (fun _ => rfl)) (h165.mono ((((((((le171.trans le179).trans le203).trans le354).trans le362).trans le370).trans le378).trans le386).trans le394))))⟩⟩, rfl⟩ : VRep (kMach false false) _ _ (⟨2, 2, ([([(⟨y1.to, y1.out⟩ : Edge), (⟨y7.to, y7.out⟩ : Edge)] : List Edge), ([(⟨y18.to, y18.out⟩ : Edge), (⟨y24.to, y24.out⟩ : Edge)] : List Edge), ([(⟨y35.to, y35.out⟩ : Edge), (⟨y41.to, y41.out⟩ : Edge)] : List Edge), ([(⟨y52.to, y52.out⟩ : Edge), (⟨y58.to, y58.out⟩ : Edge)] : List Edge)] : List (List Edge))⟩ : Mach)) c404) fun v405 R407 le408 h406 => ?_
      obtain ⟨v409, rfl, h410⟩ := h406
      refine wo_v rfl (val_move (v := (.tuple #[v409, (.int .i64 y403.2)])) rfl) ?_
      refine wo_v rfl (val_extract rfl rfl) ?_
      refine wo_v rfl (val_extract rfl rfl) ?_
      refine wo_alloc rfl za27 fun b411 => ?_
      obtain ⟨v413, rfl, h414⟩ := cases_Mach h410
      refine wo_store (i := 0) (vs := [(.int .i64 y403.1.inputs), (.int .i64 y403.1.outputs), v413]) sz27 rfl rfl rfl rfl rfl rfl (one_cons rfl (one_cons rfl (one_cons (sl_one h414) one_nil))) ?_
      refine wo_v rfl (val_assign (v := (.int .i64 y403.2)) rfl) ?_
      refine wo_nil ?_
      refine wg_seq ?_
      refine wg_region ?_
      refine wo_v rfl (val_loadBA (i := 4) ag27 sz27 rfl rfl rfl rfl) ?_
      replace hd0 := bd_some hd0; obtain ⟨y415, c416, hd0⟩ := hd0
      refine wo_callP rfl en30 rfl (c_walks_IsCanonical (⟨_, ⟨_, _, rfl, rfl, ⟨_, _, rfl, rfl, (rep_one rfl (Sub.v (B := (tSl false (tSl false kEdge))) (sub_sl (sub_sl Sub.refl (fun _ => rfl)) (fun _ => rfl)) (h165.mono (((((((((le171.trans le179).trans le203).trans le354).trans le362).trans le370).trans le378).trans le386).trans le394).trans le408))))⟩⟩, rfl⟩ : VRep (kMach false false) _ _ (⟨2, 2, ([([(⟨y1.to, y1.out⟩ : Edge), (⟨y7.to, y7.out⟩ : Edge)] : List Edge), ([(⟨y18.to, y18.out⟩ : Edge), (⟨y24.to, y24.out⟩ : Edge)] : List Edge), ([(⟨y35.to, y35.out⟩ : Edge), (⟨y41.to, y41.out⟩ : Edge)] : List Edge), ([(⟨y52.to, y52.out⟩ : Edge), (⟨y58.to, y58.out⟩ : Edge)] : List Edge)] : List (List Edge))⟩ : Mach)) c416) fun v417 R419 le420 h418 => ?_
      obtain rfl := h418
      refine wo_v rfl (val_move (v := (.tuple #[(.bool y415.1), (.int .i64 y415.2)])) rfl) ?_
      refine wo_v rfl (val_extract rfl rfl) ?_
      refine wo_v rfl (val_extract rfl rfl) ?_
      refine wo_v rfl (val_assign (v := (.bool y415.1)) rfl) ?_
      refine wo_v rfl (val_assign (v := (.int .i64 y415.2)) rfl) ?_
      refine wo_nil ?_
      refine wg_seq ?_
      refine wg_region ?_
      refine wo_v rfl (val_loadBA (i := 4) ag27 sz27 rfl rfl rfl rfl) ?_
      refine wo_v rfl (val_loadBA (i := 2) ag27 sz27 rfl rfl rfl rfl) ?_
      refine wo_freeze (i := 3) rfl (h158.mono (((((((((((le163.trans le171).trans le179).trans le203).trans le354).trans le362).trans le370).trans le378).trans le386).trans le394).trans le408).trans le420)) fun R421 le422 h423 => ?_
      have h424 : VRep (tSl true (tSl true kEdge)) R421 v155 ([([(⟨y92.to, y92.out⟩ : Edge), (⟨y98.to, y98.out⟩ : Edge)] : List Edge), ([(⟨y109.to, y109.out⟩ : Edge), (⟨y115.to, y115.out⟩ : Edge)] : List Edge), ([(⟨y126.to, y126.out⟩ : Edge), (⟨y132.to, y132.out⟩ : Edge)] : List Edge)] : List (List Edge)) := (sl_t h423 cap157)
      replace hd0 := bd_some hd0; obtain ⟨y425, c426, hd0⟩ := hd0
      refine wo_callP rfl en32 rfl (c_walks_Isomorphic (⟨_, ⟨_, _, rfl, rfl, ⟨_, _, rfl, rfl, (rep_one rfl (Sub.v (B := (tSl false (tSl false kEdge))) (sub_sl (sub_sl Sub.refl (fun _ => rfl)) (fun _ => rfl)) (h165.mono (((((((((((le171.trans le179).trans le203).trans le354).trans le362).trans le370).trans le378).trans le386).trans le394).trans le408).trans le420).trans le422))))⟩⟩, rfl⟩ : VRep (kMach false false) _ _ (⟨2, 2, ([([(⟨y1.to, y1.out⟩ : Edge), (⟨y7.to, y7.out⟩ : Edge)] : List Edge), ([(⟨y18.to, y18.out⟩ : Edge), (⟨y24.to, y24.out⟩ : Edge)] : List Edge), ([(⟨y35.to, y35.out⟩ : Edge), (⟨y41.to, y41.out⟩ : Edge)] : List Edge), ([(⟨y52.to, y52.out⟩ : Edge), (⟨y58.to, y58.out⟩ : Edge)] : List Edge)] : List (List Edge))⟩ : Mach)) (⟨_, ⟨_, _, rfl, rfl, ⟨_, _, rfl, rfl, (rep_one rfl (Sub.v (B := (tSl false (tSl false kEdge))) (sub_sl (sub_sl Sub.refl (fun _ => rfl)) (fun _ => rfl)) h424))⟩⟩, rfl⟩ : VRep (kMach false false) _ _ (⟨2, 2, ([([(⟨y92.to, y92.out⟩ : Edge), (⟨y98.to, y98.out⟩ : Edge)] : List Edge), ([(⟨y109.to, y109.out⟩ : Edge), (⟨y115.to, y115.out⟩ : Edge)] : List Edge), ([(⟨y126.to, y126.out⟩ : Edge), (⟨y132.to, y132.out⟩ : Edge)] : List Edge)] : List (List Edge))⟩ : Mach)) c426) fun v427 R429 le430 h428 => ?_
      obtain ⟨v431, rfl, h432⟩ := h428
      refine wo_v rfl (val_move (v := (.tuple #[v431, (.bool y425.2.1), (.int .i64 y425.2.2)])) rfl) ?_
      refine wo_v rfl (val_extract rfl rfl) ?_
      refine wo_v rfl (val_extract rfl rfl) ?_
      refine wo_v rfl (val_extract rfl rfl) ?_
      refine wo_v rfl (val_assign (v := v431) rfl) ?_
      refine wo_v rfl (val_assign (v := (.bool y425.2.1)) rfl) ?_
      refine wo_v rfl (val_assign (v := (.int .i64 y425.2.2)) rfl) ?_
      refine wo_nil ?_
      refine wg_seq ?_
      replace hd0 := bd_some hd0; obtain ⟨y433, c434, hd0⟩ := hd0
      replace hd0 := bd_some hd0; obtain ⟨y435, c436, hd0⟩ := hd0
      replace hd0 := bd_some hd0; obtain ⟨y437, c438, hd0⟩ := hd0
      replace hd0 := bd_some hd0; obtain ⟨y439, c440, hd0⟩ := hd0
      replace hd0 := bd_some hd0; obtain ⟨y441, c442, hd0⟩ := hd0
      replace hd0 := bd_some hd0; obtain ⟨y443, c444, hd0⟩ := hd0
      replace hd0 := bd_some hd0; obtain ⟨y445, c446, hd0⟩ := hd0
      replace hd0 := bd_some hd0; obtain ⟨y447, c448, hd0⟩ := hd0
      replace hd0 := bd_some hd0; obtain ⟨y449, c450, hd0⟩ := hd0
      refine wg_guarded 75 [] [phX v355, phX (.int .i64 y349.2.2), phR (tSl true (tInt .i64)) ([0] : List Int), phX (.bool y433), phX (.bool y433), phG (true && (y433 == true)) (phX (.bool y349.2.1)), phX (.bool (y433 && y349.2.1)), phX (.bool (y433 && y349.2.1)), phG (true && ((y433 && y349.2.1) == true)) (phX v363), phG (true && ((y433 && y349.2.1) == true)) (phX (.int .i64 y357.2.2)), phG (true && ((y433 && y349.2.1) == true)) (phX (.bool (y435.getD default))), phX (.bool ((y433 && y349.2.1) && (y435.getD default))), phX (.bool ((y433 && y349.2.1) && (y435.getD default))), phG (true && (((y433 && y349.2.1) && (y435.getD default)) == true)) (phX (.bool y357.2.1)), phX (.bool (((y433 && y349.2.1) && (y435.getD default)) && y357.2.1)), phX (.bool (((y433 && y349.2.1) && (y435.getD default)) && y357.2.1)), phG (true && ((((y433 && y349.2.1) && (y435.getD default)) && y357.2.1) == true)) (phX v371), phG (true && ((((y433 && y349.2.1) && (y435.getD default)) && y357.2.1) == true)) (phX (.int .i64 y365.2.2)), phG (true && ((((y433 && y349.2.1) && (y435.getD default)) && y357.2.1) == true)) (phR (tSl true (tInt .i64)) ([1, 1] : List Int)), phG (true && ((((y433 && y349.2.1) && (y435.getD default)) && y357.2.1) == true)) (phX (.bool (y437.getD default))), phX (.bool ((((y433 && y349.2.1) && (y435.getD default)) && y357.2.1) && (y437.getD default))), phX (.bool ((((y433 && y349.2.1) && (y435.getD default)) && y357.2.1) && (y437.getD default))), phG (true && (((((y433 && y349.2.1) && (y435.getD default)) && y357.2.1) && (y437.getD default)) == true)) (phX (.bool y365.2.1)), phX (.bool (((((y433 && y349.2.1) && (y435.getD default)) && y357.2.1) && (y437.getD default)) && y365.2.1)), phX (.bool (((((y433 && y349.2.1) && (y435.getD default)) && y357.2.1) && (y437.getD default)) && y365.2.1)), phG (true && ((((((y433 && y349.2.1) && (y435.getD default)) && y357.2.1) && (y437.getD default)) && y365.2.1) == true)) (phX v379), phG (true && ((((((y433 && y349.2.1) && (y435.getD default)) && y357.2.1) && (y437.getD default)) && y365.2.1) == true)) (phX (.int .i64 y373.2.2)), phG (true && ((((((y433 && y349.2.1) && (y435.getD default)) && y357.2.1) && (y437.getD default)) && y365.2.1) == true)) (phX (.bool (y439.getD default))), phX (.bool ((((((y433 && y349.2.1) && (y435.getD default)) && y357.2.1) && (y437.getD default)) && y365.2.1) && (y439.getD default))), phX (.bool ((((((y433 && y349.2.1) && (y435.getD default)) && y357.2.1) && (y437.getD default)) && y365.2.1) && (y439.getD default))), phG (true && (((((((y433 && y349.2.1) && (y435.getD default)) && y357.2.1) && (y437.getD default)) && y365.2.1) && (y439.getD default)) == true)) (phX (.bool y373.2.1)), phG (true && (((((((y433 && y349.2.1) && (y435.getD default)) && y357.2.1) && (y437.getD default)) && y365.2.1) && (y439.getD default)) == true)) (phX (.bool (!y373.2.1))), phX (.bool (((((((y433 && y349.2.1) && (y435.getD default)) && y357.2.1) && (y437.getD default)) && y365.2.1) && (y439.getD default)) && (!y373.2.1))), phX (.bool (((((((y433 && y349.2.1) && (y435.getD default)) && y357.2.1) && (y437.getD default)) && y365.2.1) && (y439.getD default)) && (!y373.2.1))), phG (true && ((((((((y433 && y349.2.1) && (y435.getD default)) && y357.2.1) && (y437.getD default)) && y365.2.1) && (y439.getD default)) && (!y373.2.1)) == true)) (phX v387), phG (true && ((((((((y433 && y349.2.1) && (y435.getD default)) && y357.2.1) && (y437.getD default)) && y365.2.1) && (y439.getD default)) && (!y373.2.1)) == true)) (phX (.int .i64 y381.2)), phG (true && ((((((((y433 && y349.2.1) && (y435.getD default)) && y357.2.1) && (y437.getD default)) && y365.2.1) && (y439.getD default)) && (!y373.2.1)) == true)) (phR (tSl true (tInt .i64)) ([2, (-1), 0, 1] : List Int)), phG (true && ((((((((y433 && y349.2.1) && (y435.getD default)) && y357.2.1) && (y437.getD default)) && y365.2.1) && (y439.getD default)) && (!y373.2.1)) == true)) (phX (.bool (y441.getD default))), phX (.bool ((((((((y433 && y349.2.1) && (y435.getD default)) && y357.2.1) && (y437.getD default)) && y365.2.1) && (y439.getD default)) && (!y373.2.1)) && (y441.getD default))), phX (.bool ((((((((y433 && y349.2.1) && (y435.getD default)) && y357.2.1) && (y437.getD default)) && y365.2.1) && (y439.getD default)) && (!y373.2.1)) && (y441.getD default))), phG (true && (((((((((y433 && y349.2.1) && (y435.getD default)) && y357.2.1) && (y437.getD default)) && y365.2.1) && (y439.getD default)) && (!y373.2.1)) && (y441.getD default)) == true)) (phX (.agg #[(.int .i64 y389.1.inputs), (.int .i64 y389.1.outputs), v401])), phG (true && (((((((((y433 && y349.2.1) && (y435.getD default)) && y357.2.1) && (y437.getD default)) && y365.2.1) && (y439.getD default)) && (!y373.2.1)) && (y441.getD default)) == true)) (phX (.int .i64 y389.2.2)), phG (true && (((((((((y433 && y349.2.1) && (y435.getD default)) && y357.2.1) && (y437.getD default)) && y365.2.1) && (y439.getD default)) && (!y373.2.1)) && (y441.getD default)) == true)) (phX (.agg #[(.int .i64 2), (.int .i64 2), v155])), phG (true && (((((((((y433 && y349.2.1) && (y435.getD default)) && y357.2.1) && (y437.getD default)) && y365.2.1) && (y439.getD default)) && (!y373.2.1)) && (y441.getD default)) == true)) (phX (.bool (y443.getD default))), phX (.bool (((((((((y433 && y349.2.1) && (y435.getD default)) && y357.2.1) && (y437.getD default)) && y365.2.1) && (y439.getD default)) && (!y373.2.1)) && (y441.getD default)) && (y443.getD default))), phX (.bool (((((((((y433 && y349.2.1) && (y435.getD default)) && y357.2.1) && (y437.getD default)) && y365.2.1) && (y439.getD default)) && (!y373.2.1)) && (y441.getD default)) && (y443.getD default))), phG (true && ((((((((((y433 && y349.2.1) && (y435.getD default)) && y357.2.1) && (y437.getD default)) && y365.2.1) && (y439.getD default)) && (!y373.2.1)) && (y441.getD default)) && (y443.getD default)) == true)) (phX v397), phG (true && ((((((((((y433 && y349.2.1) && (y435.getD default)) && y357.2.1) && (y437.getD default)) && y365.2.1) && (y439.getD default)) && (!y373.2.1)) && (y441.getD default)) && (y443.getD default)) == true)) (phX (.int .i64 y389.2.2)), phG (true && ((((((((((y433 && y349.2.1) && (y435.getD default)) && y357.2.1) && (y437.getD default)) && y365.2.1) && (y439.getD default)) && (!y373.2.1)) && (y441.getD default)) && (y443.getD default)) == true)) (phR (tSl true (tInt .i64)) ([0, 2, 3] : List Int)), phG (true && ((((((((((y433 && y349.2.1) && (y435.getD default)) && y357.2.1) && (y437.getD default)) && y365.2.1) && (y439.getD default)) && (!y373.2.1)) && (y441.getD default)) && (y443.getD default)) == true)) (phX (.bool (y445.getD default))), phX (.bool ((((((((((y433 && y349.2.1) && (y435.getD default)) && y357.2.1) && (y437.getD default)) && y365.2.1) && (y439.getD default)) && (!y373.2.1)) && (y441.getD default)) && (y443.getD default)) && (y445.getD default))), phX (.bool ((((((((((y433 && y349.2.1) && (y435.getD default)) && y357.2.1) && (y437.getD default)) && y365.2.1) && (y439.getD default)) && (!y373.2.1)) && (y441.getD default)) && (y443.getD default)) && (y445.getD default))), phG (true && (((((((((((y433 && y349.2.1) && (y435.getD default)) && y357.2.1) && (y437.getD default)) && y365.2.1) && (y439.getD default)) && (!y373.2.1)) && (y441.getD default)) && (y443.getD default)) && (y445.getD default)) == true)) (phX (.agg #[(.int .i64 y403.1.inputs), (.int .i64 y403.1.outputs), v413])), phG (true && (((((((((((y433 && y349.2.1) && (y435.getD default)) && y357.2.1) && (y437.getD default)) && y365.2.1) && (y439.getD default)) && (!y373.2.1)) && (y441.getD default)) && (y443.getD default)) && (y445.getD default)) == true)) (phX (.int .i64 y403.2)), phG (true && (((((((((((y433 && y349.2.1) && (y435.getD default)) && y357.2.1) && (y437.getD default)) && y365.2.1) && (y439.getD default)) && (!y373.2.1)) && (y441.getD default)) && (y443.getD default)) && (y445.getD default)) == true)) (phX (.agg #[(.int .i64 2), (.int .i64 2), v155])), phG (true && (((((((((((y433 && y349.2.1) && (y435.getD default)) && y357.2.1) && (y437.getD default)) && y365.2.1) && (y439.getD default)) && (!y373.2.1)) && (y441.getD default)) && (y443.getD default)) && (y445.getD default)) == true)) (phX (.bool (y447.getD default))), phX (.bool (((((((((((y433 && y349.2.1) && (y435.getD default)) && y357.2.1) && (y437.getD default)) && y365.2.1) && (y439.getD default)) && (!y373.2.1)) && (y441.getD default)) && (y443.getD default)) && (y445.getD default)) && (y447.getD default))), phX (.bool (((((((((((y433 && y349.2.1) && (y435.getD default)) && y357.2.1) && (y437.getD default)) && y365.2.1) && (y439.getD default)) && (!y373.2.1)) && (y441.getD default)) && (y443.getD default)) && (y445.getD default)) && (y447.getD default))), phG (true && ((((((((((((y433 && y349.2.1) && (y435.getD default)) && y357.2.1) && (y437.getD default)) && y365.2.1) && (y439.getD default)) && (!y373.2.1)) && (y441.getD default)) && (y443.getD default)) && (y445.getD default)) && (y447.getD default)) == true)) (phX (.bool y415.1)), phG (true && ((((((((((((y433 && y349.2.1) && (y435.getD default)) && y357.2.1) && (y437.getD default)) && y365.2.1) && (y439.getD default)) && (!y373.2.1)) && (y441.getD default)) && (y443.getD default)) && (y445.getD default)) && (y447.getD default)) == true)) (phX (.bool (!y415.1))), phX (.bool ((((((((((((y433 && y349.2.1) && (y435.getD default)) && y357.2.1) && (y437.getD default)) && y365.2.1) && (y439.getD default)) && (!y373.2.1)) && (y441.getD default)) && (y443.getD default)) && (y445.getD default)) && (y447.getD default)) && (!y415.1))), phX (.bool ((((((((((((y433 && y349.2.1) && (y435.getD default)) && y357.2.1) && (y437.getD default)) && y365.2.1) && (y439.getD default)) && (!y373.2.1)) && (y441.getD default)) && (y443.getD default)) && (y445.getD default)) && (y447.getD default)) && (!y415.1))), phG (true && (((((((((((((y433 && y349.2.1) && (y435.getD default)) && y357.2.1) && (y437.getD default)) && y365.2.1) && (y439.getD default)) && (!y373.2.1)) && (y441.getD default)) && (y443.getD default)) && (y445.getD default)) && (y447.getD default)) && (!y415.1)) == true)) (phX (.int .i64 y415.2)), phG (true && (((((((((((((y433 && y349.2.1) && (y435.getD default)) && y357.2.1) && (y437.getD default)) && y365.2.1) && (y439.getD default)) && (!y373.2.1)) && (y441.getD default)) && (y443.getD default)) && (y445.getD default)) && (y447.getD default)) && (!y415.1)) == true)) (phX (.bool (decide (y415.2 = 0)))), phX (.bool (((((((((((((y433 && y349.2.1) && (y435.getD default)) && y357.2.1) && (y437.getD default)) && y365.2.1) && (y439.getD default)) && (!y373.2.1)) && (y441.getD default)) && (y443.getD default)) && (y445.getD default)) && (y447.getD default)) && (!y415.1)) && (decide (y415.2 = 0)))), phX (.bool (((((((((((((y433 && y349.2.1) && (y435.getD default)) && y357.2.1) && (y437.getD default)) && y365.2.1) && (y439.getD default)) && (!y373.2.1)) && (y441.getD default)) && (y443.getD default)) && (y445.getD default)) && (y447.getD default)) && (!y415.1)) && (decide (y415.2 = 0)))), phG (true && ((((((((((((((y433 && y349.2.1) && (y435.getD default)) && y357.2.1) && (y437.getD default)) && y365.2.1) && (y439.getD default)) && (!y373.2.1)) && (y441.getD default)) && (y443.getD default)) && (y445.getD default)) && (y447.getD default)) && (!y415.1)) && (decide (y415.2 = 0))) == true)) (phX v431), phG (true && ((((((((((((((y433 && y349.2.1) && (y435.getD default)) && y357.2.1) && (y437.getD default)) && y365.2.1) && (y439.getD default)) && (!y373.2.1)) && (y441.getD default)) && (y443.getD default)) && (y445.getD default)) && (y447.getD default)) && (!y415.1)) && (decide (y415.2 = 0))) == true)) (phX (.int .i64 y425.2.2)), phG (true && ((((((((((((((y433 && y349.2.1) && (y435.getD default)) && y357.2.1) && (y437.getD default)) && y365.2.1) && (y439.getD default)) && (!y373.2.1)) && (y441.getD default)) && (y443.getD default)) && (y445.getD default)) && (y447.getD default)) && (!y415.1)) && (decide (y415.2 = 0))) == true)) (phR (tSl true (tInt .i64)) ([0, (-1), 1, 2] : List Int)), phG (true && ((((((((((((((y433 && y349.2.1) && (y435.getD default)) && y357.2.1) && (y437.getD default)) && y365.2.1) && (y439.getD default)) && (!y373.2.1)) && (y441.getD default)) && (y443.getD default)) && (y445.getD default)) && (y447.getD default)) && (!y415.1)) && (decide (y415.2 = 0))) == true)) (phX (.bool (y449.getD default))), phX (.bool ((((((((((((((y433 && y349.2.1) && (y435.getD default)) && y357.2.1) && (y437.getD default)) && y365.2.1) && (y439.getD default)) && (!y373.2.1)) && (y441.getD default)) && (y443.getD default)) && (y445.getD default)) && (y447.getD default)) && (!y415.1)) && (decide (y415.2 = 0))) && (y449.getD default))), phX (.bool ((((((((((((((y433 && y349.2.1) && (y435.getD default)) && y357.2.1) && (y437.getD default)) && y365.2.1) && (y439.getD default)) && (!y373.2.1)) && (y441.getD default)) && (y443.getD default)) && (y445.getD default)) && (y447.getD default)) && (!y415.1)) && (decide (y415.2 = 0))) && (y449.getD default))), phG (true && (((((((((((((((y433 && y349.2.1) && (y435.getD default)) && y357.2.1) && (y437.getD default)) && y365.2.1) && (y439.getD default)) && (!y373.2.1)) && (y441.getD default)) && (y443.getD default)) && (y445.getD default)) && (y447.getD default)) && (!y415.1)) && (decide (y415.2 = 0))) && (y449.getD default)) == true)) (phX (.bool y425.2.1)), phX (.bool (((((((((((((((y433 && y349.2.1) && (y435.getD default)) && y357.2.1) && (y437.getD default)) && y365.2.1) && (y439.getD default)) && (!y373.2.1)) && (y441.getD default)) && (y443.getD default)) && (y445.getD default)) && (y447.getD default)) && (!y415.1)) && (decide (y415.2 = 0))) && (y449.getD default)) && y425.2.1)), phX (.bool (((((((((((((((y433 && y349.2.1) && (y435.getD default)) && y357.2.1) && (y437.getD default)) && y365.2.1) && (y439.getD default)) && (!y373.2.1)) && (y441.getD default)) && (y443.getD default)) && (y445.getD default)) && (y447.getD default)) && (!y415.1)) && (decide (y415.2 = 0))) && (y449.getD default)) && y425.2.1))] (by as_aux_lemma => kernel_rfl) (by as_aux_lemma => kernel_rfl) (monoOk_of ⟨mono_x, mono_x, mono_r, mono_x, mono_x, (mono_g mono_x), mono_x, mono_x, (mono_g mono_x), (mono_g mono_x), (mono_g mono_x), mono_x, mono_x, (mono_g mono_x), mono_x, mono_x, (mono_g mono_x), (mono_g mono_x), (mono_g mono_r), (mono_g mono_x), mono_x, mono_x, (mono_g mono_x), mono_x, mono_x, (mono_g mono_x), (mono_g mono_x), (mono_g mono_x), mono_x, mono_x, (mono_g mono_x), (mono_g mono_x), mono_x, mono_x, (mono_g mono_x), (mono_g mono_x), (mono_g mono_r), (mono_g mono_x), mono_x, mono_x, (mono_g mono_x), (mono_g mono_x), (mono_g mono_x), (mono_g mono_x), mono_x, mono_x, (mono_g mono_x), (mono_g mono_x), (mono_g mono_r), (mono_g mono_x), mono_x, mono_x, (mono_g mono_x), (mono_g mono_x), (mono_g mono_x), (mono_g mono_x), mono_x, mono_x, (mono_g mono_x), (mono_g mono_x), mono_x, mono_x, (mono_g mono_x), (mono_g mono_x), mono_x, mono_x, (mono_g mono_x), (mono_g mono_x), (mono_g mono_r), (mono_g mono_x), mono_x, mono_x, (mono_g mono_x), mono_x, mono_x, trivial⟩) ⟨?_, ?_, ?_, ?_, ?_, ?_, ?_, ?_, ?_, ?_, ?_, ?_, ?_, ?_, ?_, ?_, ?_, ?_, ?_, ?_, ?_, ?_, ?_, ?_, ?_, ?_, ?_, ?_, ?_, ?_, ?_, ?_, ?_, ?_, ?_, ?_, ?_, ?_, ?_, ?_, ?_, ?_, ?_, ?_, ?_, ?_, ?_, ?_, ?_, ?_, ?_, ?_, ?_, ?_, ?_, ?_, ?_, ?_, ?_, ?_, ?_, ?_, ?_, ?_, ?_, ?_, ?_, ?_, ?_, ?_, ?_, ?_, ?_, ?_, ?_, trivial⟩ fun R451 le452 => ?_
      · intro l R0q hle ha hd
        have a8 : l 8 = v355 := ha 8 rfl
        exact gstep_plain rfl rfl rfl (ph_val (val_move a8))
      · intro l R1q hle ha hd
        have a10 : l 10 = (.int .i64 y349.2.2) := ha 10 rfl
        exact gstep_plain rfl rfl rfl (ph_val (val_move a10))
      · intro l R2q hle ha hd
        exact gstep_plain rfl rfl rfl (ph_litT (T := (tInt .i64)) (X := ([0] : List Int)) (ps := [(0, (.int .i64 0))]) (css := [[(.int .i64 0)]]) Try.underlying36 zo3 rfl rfl (lit_reps ⟨rfl, trivial⟩) rfl rfl (by decide))
      · intro l R3q hle ha hd
        obtain ⟨d0, d1, d2, _⟩ := hd
        have f192 : l 192 = v355 := d0 rfl
        have f193 : l 193 = (.int .i64 y349.2.2) := d1 rfl
        have f194 : phR (tSl true (tInt .i64)) ([0] : List Int) (l 194) R3q := d2 rfl
        exact gstep_plain rfl rfl rfl (ph_callP (vs := [v355, (.int .i64 y349.2.2), (l 194), (.int .i64 0)]) en14 (by simp only [List.map, ev, f192, f193] <;> rfl) (c_gauntletlaw06_list ((h356.mono ((((((((le362.trans le370).trans le378).trans le386).trans le394).trans le408).trans le420).trans le422).trans le430)).mono hle) (Sub.v (B := (tSl false (tInt .i64))) (sub_sl Sub.refl (fun _ => rfl)) f194) c434) (fun _ _ h => h))
      · intro l R4q hle ha hd
        obtain ⟨d0, d1, _⟩ := hd
        have f195 : l 195 = (.bool y433) := d0 rfl
        exact gstep_plain rfl rfl rfl (ph_val (val_move f195))
      · intro l R5q hle ha hd
        obtain ⟨d0, _⟩ := hd
        have a9 : l 9 = (.bool y349.2.1) := ha 9 rfl
        exact gstep_guard (Gj := true) (Bj := y433) rfl rfl rfl (gtrue (d0 rfl)) rfl (fun hG hB => ph_val (val_move a9))
      · intro l R6q hle ha hd
        obtain ⟨d0, d1, _⟩ := hd
        have f196 : l 196 = (.bool y433) := d0 rfl
        have f197g : phG (true && (y433 == true)) (phX (.bool y349.2.1)) (l 197) R6q := d1 rfl
        exact gstep_plain rfl rfl rfl (ph_val (val_and f196 (fun hb => (show l 197 = (.bool y349.2.1) from f197g.1 (gandT rfl hb))) rfl))
      · intro l R7q hle ha hd
        obtain ⟨d0, d1, _⟩ := hd
        have f198 : l 198 = (.bool (y433 && y349.2.1)) := d0 rfl
        exact gstep_plain rfl rfl rfl (ph_val (val_move f198))
      · intro l R8q hle ha hd
        obtain ⟨d0, _⟩ := hd
        have a11 : l 11 = v363 := ha 11 rfl
        exact gstep_guard (Gj := true) (Bj := y433 && y349.2.1) rfl rfl rfl (gtrue (d0 rfl)) rfl (fun hG hB => ph_val (val_move a11))
      · intro l R9q hle ha hd
        obtain ⟨d0, _⟩ := hd
        have a13 : l 13 = (.int .i64 y357.2.2) := ha 13 rfl
        exact gstep_guard (Gj := true) (Bj := y433 && y349.2.1) rfl rfl rfl (gtrue (d0 rfl)) rfl (fun hG hB => ph_val (val_move a13))
      · intro l R10q hle ha hd
        obtain ⟨d0, d1, d2, d3, _⟩ := hd
        have f200g : phG (true && ((y433 && y349.2.1) == true)) (phX v363) (l 200) R10q := d0 rfl
        have f201g : phG (true && ((y433 && y349.2.1) == true)) (phX (.int .i64 y357.2.2)) (l 201) R10q := d1 rfl
        exact gstep_guard (Gj := true) (Bj := y433 && y349.2.1) rfl rfl rfl (gtrue (d2 rfl)) rfl (fun hG hB => ph_callP (vs := [v363, (.int .i64 y357.2.2), (.slice none 0 0), (.int .i64 0)]) en14 (by simp only [List.map, ev, (show l 200 = v363 from f200g.1 (gandT rfl hB)), (show l 201 = (.int .i64 y357.2.2) from f201g.1 (gandT rfl hB))] <;> rfl) ((by have z := (gop_def c436 (gandT hG hB)); exact c_gauntletlaw06_list ((h364.mono (((((((le370.trans le378).trans le386).trans le394).trans le408).trans le420).trans le422).trans le430)).mono hle) sl_nil z)) (fun _ _ h => h))
      · intro l R11q hle ha hd
        obtain ⟨d0, d1, _⟩ := hd
        have f199 : l 199 = (.bool (y433 && y349.2.1)) := d0 rfl
        have f202g : phG (true && ((y433 && y349.2.1) == true)) (phX (.bool (y435.getD default))) (l 202) R11q := d1 rfl
        exact gstep_plain rfl rfl rfl (ph_val (val_and f199 (fun hb => (show l 202 = (.bool (y435.getD default)) from f202g.1 (gandT rfl hb))) rfl))
      · intro l R12q hle ha hd
        obtain ⟨d0, d1, _⟩ := hd
        have f203 : l 203 = (.bool ((y433 && y349.2.1) && (y435.getD default))) := d0 rfl
        exact gstep_plain rfl rfl rfl (ph_val (val_move f203))
      · intro l R13q hle ha hd
        obtain ⟨d0, _⟩ := hd
        have a12 : l 12 = (.bool y357.2.1) := ha 12 rfl
        exact gstep_guard (Gj := true) (Bj := (y433 && y349.2.1) && (y435.getD default)) rfl rfl rfl (gtrue (d0 rfl)) rfl (fun hG hB => ph_val (val_move a12))
      · intro l R14q hle ha hd
        obtain ⟨d0, d1, _⟩ := hd
        have f204 : l 204 = (.bool ((y433 && y349.2.1) && (y435.getD default))) := d0 rfl
        have f205g : phG (true && (((y433 && y349.2.1) && (y435.getD default)) == true)) (phX (.bool y357.2.1)) (l 205) R14q := d1 rfl
        exact gstep_plain rfl rfl rfl (ph_val (val_and f204 (fun hb => (show l 205 = (.bool y357.2.1) from f205g.1 (gandT rfl hb))) rfl))
      · intro l R15q hle ha hd
        obtain ⟨d0, d1, _⟩ := hd
        have f206 : l 206 = (.bool (((y433 && y349.2.1) && (y435.getD default)) && y357.2.1)) := d0 rfl
        exact gstep_plain rfl rfl rfl (ph_val (val_move f206))
      · intro l R16q hle ha hd
        obtain ⟨d0, _⟩ := hd
        have a14 : l 14 = v371 := ha 14 rfl
        exact gstep_guard (Gj := true) (Bj := ((y433 && y349.2.1) && (y435.getD default)) && y357.2.1) rfl rfl rfl (gtrue (d0 rfl)) rfl (fun hG hB => ph_val (val_move a14))
      · intro l R17q hle ha hd
        obtain ⟨d0, _⟩ := hd
        have a16 : l 16 = (.int .i64 y365.2.2) := ha 16 rfl
        exact gstep_guard (Gj := true) (Bj := ((y433 && y349.2.1) && (y435.getD default)) && y357.2.1) rfl rfl rfl (gtrue (d0 rfl)) rfl (fun hG hB => ph_val (val_move a16))
      · intro l R18q hle ha hd
        obtain ⟨d0, _⟩ := hd
        exact gstep_guard (Gj := true) (Bj := ((y433 && y349.2.1) && (y435.getD default)) && y357.2.1) rfl rfl rfl (gtrue (d0 rfl)) rfl (fun hG hB => ph_litT (T := (tInt .i64)) (X := ([1, 1] : List Int)) (ps := [(0, (.int .i64 1)), (1, (.int .i64 1))]) (css := [[(.int .i64 1)], [(.int .i64 1)]]) Try.underlying36 zo3 rfl rfl (lit_reps ⟨rfl, rfl, trivial⟩) rfl rfl (by decide))
      · intro l R19q hle ha hd
        obtain ⟨d0, d1, d2, d3, d4, _⟩ := hd
        have f208g : phG (true && ((((y433 && y349.2.1) && (y435.getD default)) && y357.2.1) == true)) (phX v371) (l 208) R19q := d0 rfl
        have f209g : phG (true && ((((y433 && y349.2.1) && (y435.getD default)) && y357.2.1) == true)) (phX (.int .i64 y365.2.2)) (l 209) R19q := d1 rfl
        have f210g : phG (true && ((((y433 && y349.2.1) && (y435.getD default)) && y357.2.1) == true)) (phR (tSl true (tInt .i64)) ([1, 1] : List Int)) (l 210) R19q := d2 rfl
        exact gstep_guard (Gj := true) (Bj := ((y433 && y349.2.1) && (y435.getD default)) && y357.2.1) rfl rfl rfl (gtrue (d3 rfl)) rfl (fun hG hB => ph_callP (vs := [v371, (.int .i64 y365.2.2), (l 210), (.int .i64 0)]) en14 (by simp only [List.map, ev, (show l 208 = v371 from f208g.1 (gandT rfl hB)), (show l 209 = (.int .i64 y365.2.2) from f209g.1 (gandT rfl hB))] <;> rfl) ((by have z := (gop_def c438 (gandT hG hB)); exact c_gauntletlaw06_list ((h372.mono ((((((le378.trans le386).trans le394).trans le408).trans le420).trans le422).trans le430)).mono hle) (Sub.v (B := (tSl false (tInt .i64))) (sub_sl Sub.refl (fun _ => rfl)) (f210g.1 (gandT rfl hB))) z)) (fun _ _ h => h))
      · intro l R20q hle ha hd
        obtain ⟨d0, d1, _⟩ := hd
        have f207 : l 207 = (.bool (((y433 && y349.2.1) && (y435.getD default)) && y357.2.1)) := d0 rfl
        have f211g : phG (true && ((((y433 && y349.2.1) && (y435.getD default)) && y357.2.1) == true)) (phX (.bool (y437.getD default))) (l 211) R20q := d1 rfl
        exact gstep_plain rfl rfl rfl (ph_val (val_and f207 (fun hb => (show l 211 = (.bool (y437.getD default)) from f211g.1 (gandT rfl hb))) rfl))
      · intro l R21q hle ha hd
        obtain ⟨d0, d1, _⟩ := hd
        have f212 : l 212 = (.bool ((((y433 && y349.2.1) && (y435.getD default)) && y357.2.1) && (y437.getD default))) := d0 rfl
        exact gstep_plain rfl rfl rfl (ph_val (val_move f212))
      · intro l R22q hle ha hd
        obtain ⟨d0, _⟩ := hd
        have a15 : l 15 = (.bool y365.2.1) := ha 15 rfl
        exact gstep_guard (Gj := true) (Bj := (((y433 && y349.2.1) && (y435.getD default)) && y357.2.1) && (y437.getD default)) rfl rfl rfl (gtrue (d0 rfl)) rfl (fun hG hB => ph_val (val_move a15))
      · intro l R23q hle ha hd
        obtain ⟨d0, d1, _⟩ := hd
        have f213 : l 213 = (.bool ((((y433 && y349.2.1) && (y435.getD default)) && y357.2.1) && (y437.getD default))) := d0 rfl
        have f214g : phG (true && (((((y433 && y349.2.1) && (y435.getD default)) && y357.2.1) && (y437.getD default)) == true)) (phX (.bool y365.2.1)) (l 214) R23q := d1 rfl
        exact gstep_plain rfl rfl rfl (ph_val (val_and f213 (fun hb => (show l 214 = (.bool y365.2.1) from f214g.1 (gandT rfl hb))) rfl))
      · intro l R24q hle ha hd
        obtain ⟨d0, d1, _⟩ := hd
        have f215 : l 215 = (.bool (((((y433 && y349.2.1) && (y435.getD default)) && y357.2.1) && (y437.getD default)) && y365.2.1)) := d0 rfl
        exact gstep_plain rfl rfl rfl (ph_val (val_move f215))
      · intro l R25q hle ha hd
        obtain ⟨d0, _⟩ := hd
        have a17 : l 17 = v379 := ha 17 rfl
        exact gstep_guard (Gj := true) (Bj := ((((y433 && y349.2.1) && (y435.getD default)) && y357.2.1) && (y437.getD default)) && y365.2.1) rfl rfl rfl (gtrue (d0 rfl)) rfl (fun hG hB => ph_val (val_move a17))
      · intro l R26q hle ha hd
        obtain ⟨d0, _⟩ := hd
        have a19 : l 19 = (.int .i64 y373.2.2) := ha 19 rfl
        exact gstep_guard (Gj := true) (Bj := ((((y433 && y349.2.1) && (y435.getD default)) && y357.2.1) && (y437.getD default)) && y365.2.1) rfl rfl rfl (gtrue (d0 rfl)) rfl (fun hG hB => ph_val (val_move a19))
      · intro l R27q hle ha hd
        obtain ⟨d0, d1, d2, d3, _⟩ := hd
        have f217g : phG (true && ((((((y433 && y349.2.1) && (y435.getD default)) && y357.2.1) && (y437.getD default)) && y365.2.1) == true)) (phX v379) (l 217) R27q := d0 rfl
        have f218g : phG (true && ((((((y433 && y349.2.1) && (y435.getD default)) && y357.2.1) && (y437.getD default)) && y365.2.1) == true)) (phX (.int .i64 y373.2.2)) (l 218) R27q := d1 rfl
        exact gstep_guard (Gj := true) (Bj := ((((y433 && y349.2.1) && (y435.getD default)) && y357.2.1) && (y437.getD default)) && y365.2.1) rfl rfl rfl (gtrue (d2 rfl)) rfl (fun hG hB => ph_callP (vs := [v379, (.int .i64 y373.2.2), (.slice none 0 0), (.int .i64 0)]) en14 (by simp only [List.map, ev, (show l 217 = v379 from f217g.1 (gandT rfl hB)), (show l 218 = (.int .i64 y373.2.2) from f218g.1 (gandT rfl hB))] <;> rfl) ((by have z := (gop_def c440 (gandT hG hB)); exact c_gauntletlaw06_list ((h380.mono (((((le386.trans le394).trans le408).trans le420).trans le422).trans le430)).mono hle) sl_nil z)) (fun _ _ h => h))
      · intro l R28q hle ha hd
        obtain ⟨d0, d1, _⟩ := hd
        have f216 : l 216 = (.bool (((((y433 && y349.2.1) && (y435.getD default)) && y357.2.1) && (y437.getD default)) && y365.2.1)) := d0 rfl
        have f219g : phG (true && ((((((y433 && y349.2.1) && (y435.getD default)) && y357.2.1) && (y437.getD default)) && y365.2.1) == true)) (phX (.bool (y439.getD default))) (l 219) R28q := d1 rfl
        exact gstep_plain rfl rfl rfl (ph_val (val_and f216 (fun hb => (show l 219 = (.bool (y439.getD default)) from f219g.1 (gandT rfl hb))) rfl))
      · intro l R29q hle ha hd
        obtain ⟨d0, d1, _⟩ := hd
        have f220 : l 220 = (.bool ((((((y433 && y349.2.1) && (y435.getD default)) && y357.2.1) && (y437.getD default)) && y365.2.1) && (y439.getD default))) := d0 rfl
        exact gstep_plain rfl rfl rfl (ph_val (val_move f220))
      · intro l R30q hle ha hd
        obtain ⟨d0, _⟩ := hd
        have a18 : l 18 = (.bool y373.2.1) := ha 18 rfl
        exact gstep_guard (Gj := true) (Bj := (((((y433 && y349.2.1) && (y435.getD default)) && y357.2.1) && (y437.getD default)) && y365.2.1) && (y439.getD default)) rfl rfl rfl (gtrue (d0 rfl)) rfl (fun hG hB => ph_val (val_move a18))
      · intro l R31q hle ha hd
        obtain ⟨d0, d1, _⟩ := hd
        have f222g : phG (true && (((((((y433 && y349.2.1) && (y435.getD default)) && y357.2.1) && (y437.getD default)) && y365.2.1) && (y439.getD default)) == true)) (phX (.bool y373.2.1)) (l 222) R31q := d0 rfl
        exact gstep_guard (Gj := true) (Bj := (((((y433 && y349.2.1) && (y435.getD default)) && y357.2.1) && (y437.getD default)) && y365.2.1) && (y439.getD default)) rfl rfl rfl (gtrue (d1 rfl)) rfl (fun hG hB => ph_val (val_not (show l 222 = (.bool y373.2.1) from f222g.1 (gandT rfl hB))))
      · intro l R32q hle ha hd
        obtain ⟨d0, d1, _⟩ := hd
        have f221 : l 221 = (.bool ((((((y433 && y349.2.1) && (y435.getD default)) && y357.2.1) && (y437.getD default)) && y365.2.1) && (y439.getD default))) := d0 rfl
        have f223g : phG (true && (((((((y433 && y349.2.1) && (y435.getD default)) && y357.2.1) && (y437.getD default)) && y365.2.1) && (y439.getD default)) == true)) (phX (.bool (!y373.2.1))) (l 223) R32q := d1 rfl
        exact gstep_plain rfl rfl rfl (ph_val (val_and f221 (fun hb => (show l 223 = (.bool (!y373.2.1)) from f223g.1 (gandT rfl hb))) rfl))
      · intro l R33q hle ha hd
        obtain ⟨d0, d1, _⟩ := hd
        have f224 : l 224 = (.bool (((((((y433 && y349.2.1) && (y435.getD default)) && y357.2.1) && (y437.getD default)) && y365.2.1) && (y439.getD default)) && (!y373.2.1))) := d0 rfl
        exact gstep_plain rfl rfl rfl (ph_val (val_move f224))
      · intro l R34q hle ha hd
        obtain ⟨d0, _⟩ := hd
        have a20 : l 20 = v387 := ha 20 rfl
        exact gstep_guard (Gj := true) (Bj := ((((((y433 && y349.2.1) && (y435.getD default)) && y357.2.1) && (y437.getD default)) && y365.2.1) && (y439.getD default)) && (!y373.2.1)) rfl rfl rfl (gtrue (d0 rfl)) rfl (fun hG hB => ph_val (val_move a20))
      · intro l R35q hle ha hd
        obtain ⟨d0, _⟩ := hd
        have a21 : l 21 = (.int .i64 y381.2) := ha 21 rfl
        exact gstep_guard (Gj := true) (Bj := ((((((y433 && y349.2.1) && (y435.getD default)) && y357.2.1) && (y437.getD default)) && y365.2.1) && (y439.getD default)) && (!y373.2.1)) rfl rfl rfl (gtrue (d0 rfl)) rfl (fun hG hB => ph_val (val_move a21))
      · intro l R36q hle ha hd
        obtain ⟨d0, _⟩ := hd
        exact gstep_guard (Gj := true) (Bj := ((((((y433 && y349.2.1) && (y435.getD default)) && y357.2.1) && (y437.getD default)) && y365.2.1) && (y439.getD default)) && (!y373.2.1)) rfl rfl rfl (gtrue (d0 rfl)) rfl (fun hG hB => ph_litT (T := (tInt .i64)) (X := ([2, (-1), 0, 1] : List Int)) (ps := [(0, (.int .i64 2)), (1, (.int .i64 (-1))), (2, (.int .i64 0)), (3, (.int .i64 1))]) (css := [[(.int .i64 2)], [(.int .i64 (-1))], [(.int .i64 0)], [(.int .i64 1)]]) Try.underlying36 zo3 rfl rfl (lit_reps ⟨rfl, rfl, rfl, rfl, trivial⟩) rfl rfl (by decide))
      · intro l R37q hle ha hd
        obtain ⟨d0, d1, d2, d3, d4, _⟩ := hd
        have f226g : phG (true && ((((((((y433 && y349.2.1) && (y435.getD default)) && y357.2.1) && (y437.getD default)) && y365.2.1) && (y439.getD default)) && (!y373.2.1)) == true)) (phX v387) (l 226) R37q := d0 rfl
        have f227g : phG (true && ((((((((y433 && y349.2.1) && (y435.getD default)) && y357.2.1) && (y437.getD default)) && y365.2.1) && (y439.getD default)) && (!y373.2.1)) == true)) (phX (.int .i64 y381.2)) (l 227) R37q := d1 rfl
        have f228g : phG (true && ((((((((y433 && y349.2.1) && (y435.getD default)) && y357.2.1) && (y437.getD default)) && y365.2.1) && (y439.getD default)) && (!y373.2.1)) == true)) (phR (tSl true (tInt .i64)) ([2, (-1), 0, 1] : List Int)) (l 228) R37q := d2 rfl
        exact gstep_guard (Gj := true) (Bj := ((((((y433 && y349.2.1) && (y435.getD default)) && y357.2.1) && (y437.getD default)) && y365.2.1) && (y439.getD default)) && (!y373.2.1)) rfl rfl rfl (gtrue (d3 rfl)) rfl (fun hG hB => ph_callP (vs := [v387, (.int .i64 y381.2), (l 228), (.int .i64 0)]) en14 (by simp only [List.map, ev, (show l 226 = v387 from f226g.1 (gandT rfl hB)), (show l 227 = (.int .i64 y381.2) from f227g.1 (gandT rfl hB))] <;> rfl) ((by have z := (gop_def c442 (gandT hG hB)); exact c_gauntletlaw06_list ((h388.mono ((((le394.trans le408).trans le420).trans le422).trans le430)).mono hle) (Sub.v (B := (tSl false (tInt .i64))) (sub_sl Sub.refl (fun _ => rfl)) (f228g.1 (gandT rfl hB))) z)) (fun _ _ h => h))
      · intro l R38q hle ha hd
        obtain ⟨d0, d1, _⟩ := hd
        have f225 : l 225 = (.bool (((((((y433 && y349.2.1) && (y435.getD default)) && y357.2.1) && (y437.getD default)) && y365.2.1) && (y439.getD default)) && (!y373.2.1))) := d0 rfl
        have f229g : phG (true && ((((((((y433 && y349.2.1) && (y435.getD default)) && y357.2.1) && (y437.getD default)) && y365.2.1) && (y439.getD default)) && (!y373.2.1)) == true)) (phX (.bool (y441.getD default))) (l 229) R38q := d1 rfl
        exact gstep_plain rfl rfl rfl (ph_val (val_and f225 (fun hb => (show l 229 = (.bool (y441.getD default)) from f229g.1 (gandT rfl hb))) rfl))
      · intro l R39q hle ha hd
        obtain ⟨d0, d1, _⟩ := hd
        have f230 : l 230 = (.bool ((((((((y433 && y349.2.1) && (y435.getD default)) && y357.2.1) && (y437.getD default)) && y365.2.1) && (y439.getD default)) && (!y373.2.1)) && (y441.getD default))) := d0 rfl
        exact gstep_plain rfl rfl rfl (ph_val (val_move f230))
      · intro l R40q hle ha hd
        obtain ⟨d0, _⟩ := hd
        have a22 : l 22 = (.pointer (some ⟨b399, 0, none⟩)) := ha 22 rfl
        exact gstep_guard (Gj := true) (Bj := (((((((y433 && y349.2.1) && (y435.getD default)) && y357.2.1) && (y437.getD default)) && y365.2.1) && (y439.getD default)) && (!y373.2.1)) && (y441.getD default)) rfl rfl rfl (gtrue (d0 rfl)) rfl (fun hG hB => ph_val (val_loadBA (i := 1) ag27 sz27 a22 rfl rfl rfl))
      · intro l R41q hle ha hd
        obtain ⟨d0, _⟩ := hd
        have a24 : l 24 = (.int .i64 y389.2.2) := ha 24 rfl
        exact gstep_guard (Gj := true) (Bj := (((((((y433 && y349.2.1) && (y435.getD default)) && y357.2.1) && (y437.getD default)) && y365.2.1) && (y439.getD default)) && (!y373.2.1)) && (y441.getD default)) rfl rfl rfl (gtrue (d0 rfl)) rfl (fun hG hB => ph_val (val_move a24))
      · intro l R42q hle ha hd
        obtain ⟨d0, _⟩ := hd
        have a2 : l 2 = (.pointer (some ⟨b160, 0, none⟩)) := ha 2 rfl
        exact gstep_guard (Gj := true) (Bj := (((((((y433 && y349.2.1) && (y435.getD default)) && y357.2.1) && (y437.getD default)) && y365.2.1) && (y439.getD default)) && (!y373.2.1)) && (y441.getD default)) rfl rfl rfl (gtrue (d0 rfl)) rfl (fun hG hB => ph_val (val_loadBA (i := 2) ag27 sz27 a2 rfl rfl rfl))
      · intro l R43q hle ha hd
        obtain ⟨d0, d1, d2, d3, d4, _⟩ := hd
        have f232g : phG (true && (((((((((y433 && y349.2.1) && (y435.getD default)) && y357.2.1) && (y437.getD default)) && y365.2.1) && (y439.getD default)) && (!y373.2.1)) && (y441.getD default)) == true)) (phX (.agg #[(.int .i64 y389.1.inputs), (.int .i64 y389.1.outputs), v401])) (l 232) R43q := d0 rfl
        have f233g : phG (true && (((((((((y433 && y349.2.1) && (y435.getD default)) && y357.2.1) && (y437.getD default)) && y365.2.1) && (y439.getD default)) && (!y373.2.1)) && (y441.getD default)) == true)) (phX (.int .i64 y389.2.2)) (l 233) R43q := d1 rfl
        have f234g : phG (true && (((((((((y433 && y349.2.1) && (y435.getD default)) && y357.2.1) && (y437.getD default)) && y365.2.1) && (y439.getD default)) && (!y373.2.1)) && (y441.getD default)) == true)) (phX (.agg #[(.int .i64 2), (.int .i64 2), v155])) (l 234) R43q := d2 rfl
        exact gstep_guard (Gj := true) (Bj := (((((((y433 && y349.2.1) && (y435.getD default)) && y357.2.1) && (y437.getD default)) && y365.2.1) && (y439.getD default)) && (!y373.2.1)) && (y441.getD default)) rfl rfl rfl (gtrue (d3 rfl)) rfl (fun hG hB => ph_callP (vs := [(.agg #[(.int .i64 y389.1.inputs), (.int .i64 y389.1.outputs), v401]), (.int .i64 y389.2.2), (.agg #[(.int .i64 2), (.int .i64 2), v155])]) en24 (by simp only [List.map, ev, (show l 232 = (.agg #[(.int .i64 y389.1.inputs), (.int .i64 y389.1.outputs), v401]) from f232g.1 (gandT rfl hB)), (show l 233 = (.int .i64 y389.2.2) from f233g.1 (gandT rfl hB)), (show l 234 = (.agg #[(.int .i64 2), (.int .i64 2), v155]) from f234g.1 (gandT rfl hB))] <;> rfl) ((by have z := (gop_def c444 (gandT hG hB)); exact c_gauntletlaw06_machine (⟨_, ⟨_, _, rfl, rfl, ⟨_, _, rfl, rfl, (rep_one rfl ((h402.mono (((le408.trans le420).trans le422).trans le430)).mono hle))⟩⟩, rfl⟩ : VRep (kMach true true) _ _ (⟨y389.1.inputs, y389.1.outputs, y389.1.rows⟩ : Mach)) (⟨_, ⟨_, _, rfl, rfl, ⟨_, _, rfl, rfl, (rep_one rfl (Sub.v (B := (tSl false (tSl false kEdge))) (sub_sl (sub_sl Sub.refl (fun _ => rfl)) (fun _ => rfl)) ((h424.mono le430).mono hle)))⟩⟩, rfl⟩ : VRep (kMach false false) _ _ (⟨2, 2, ([([(⟨y92.to, y92.out⟩ : Edge), (⟨y98.to, y98.out⟩ : Edge)] : List Edge), ([(⟨y109.to, y109.out⟩ : Edge), (⟨y115.to, y115.out⟩ : Edge)] : List Edge), ([(⟨y126.to, y126.out⟩ : Edge), (⟨y132.to, y132.out⟩ : Edge)] : List Edge)] : List (List Edge))⟩ : Mach)) z)) (fun _ _ h => h))
      · intro l R44q hle ha hd
        obtain ⟨d0, d1, _⟩ := hd
        have f231 : l 231 = (.bool ((((((((y433 && y349.2.1) && (y435.getD default)) && y357.2.1) && (y437.getD default)) && y365.2.1) && (y439.getD default)) && (!y373.2.1)) && (y441.getD default))) := d0 rfl
        have f235g : phG (true && (((((((((y433 && y349.2.1) && (y435.getD default)) && y357.2.1) && (y437.getD default)) && y365.2.1) && (y439.getD default)) && (!y373.2.1)) && (y441.getD default)) == true)) (phX (.bool (y443.getD default))) (l 235) R44q := d1 rfl
        exact gstep_plain rfl rfl rfl (ph_val (val_and f231 (fun hb => (show l 235 = (.bool (y443.getD default)) from f235g.1 (gandT rfl hb))) rfl))
      · intro l R45q hle ha hd
        obtain ⟨d0, d1, _⟩ := hd
        have f236 : l 236 = (.bool (((((((((y433 && y349.2.1) && (y435.getD default)) && y357.2.1) && (y437.getD default)) && y365.2.1) && (y439.getD default)) && (!y373.2.1)) && (y441.getD default)) && (y443.getD default))) := d0 rfl
        exact gstep_plain rfl rfl rfl (ph_val (val_move f236))
      · intro l R46q hle ha hd
        obtain ⟨d0, _⟩ := hd
        have a23 : l 23 = v397 := ha 23 rfl
        exact gstep_guard (Gj := true) (Bj := ((((((((y433 && y349.2.1) && (y435.getD default)) && y357.2.1) && (y437.getD default)) && y365.2.1) && (y439.getD default)) && (!y373.2.1)) && (y441.getD default)) && (y443.getD default)) rfl rfl rfl (gtrue (d0 rfl)) rfl (fun hG hB => ph_val (val_move a23))
      · intro l R47q hle ha hd
        obtain ⟨d0, _⟩ := hd
        have a24 : l 24 = (.int .i64 y389.2.2) := ha 24 rfl
        exact gstep_guard (Gj := true) (Bj := ((((((((y433 && y349.2.1) && (y435.getD default)) && y357.2.1) && (y437.getD default)) && y365.2.1) && (y439.getD default)) && (!y373.2.1)) && (y441.getD default)) && (y443.getD default)) rfl rfl rfl (gtrue (d0 rfl)) rfl (fun hG hB => ph_val (val_move a24))
      · intro l R48q hle ha hd
        obtain ⟨d0, _⟩ := hd
        exact gstep_guard (Gj := true) (Bj := ((((((((y433 && y349.2.1) && (y435.getD default)) && y357.2.1) && (y437.getD default)) && y365.2.1) && (y439.getD default)) && (!y373.2.1)) && (y441.getD default)) && (y443.getD default)) rfl rfl rfl (gtrue (d0 rfl)) rfl (fun hG hB => ph_litT (T := (tInt .i64)) (X := ([0, 2, 3] : List Int)) (ps := [(0, (.int .i64 0)), (1, (.int .i64 2)), (2, (.int .i64 3))]) (css := [[(.int .i64 0)], [(.int .i64 2)], [(.int .i64 3)]]) Try.underlying36 zo3 rfl rfl (lit_reps ⟨rfl, rfl, rfl, trivial⟩) rfl rfl (by decide))
      · intro l R49q hle ha hd
        obtain ⟨d0, d1, d2, d3, d4, _⟩ := hd
        have f238g : phG (true && ((((((((((y433 && y349.2.1) && (y435.getD default)) && y357.2.1) && (y437.getD default)) && y365.2.1) && (y439.getD default)) && (!y373.2.1)) && (y441.getD default)) && (y443.getD default)) == true)) (phX v397) (l 238) R49q := d0 rfl
        have f239g : phG (true && ((((((((((y433 && y349.2.1) && (y435.getD default)) && y357.2.1) && (y437.getD default)) && y365.2.1) && (y439.getD default)) && (!y373.2.1)) && (y441.getD default)) && (y443.getD default)) == true)) (phX (.int .i64 y389.2.2)) (l 239) R49q := d1 rfl
        have f240g : phG (true && ((((((((((y433 && y349.2.1) && (y435.getD default)) && y357.2.1) && (y437.getD default)) && y365.2.1) && (y439.getD default)) && (!y373.2.1)) && (y441.getD default)) && (y443.getD default)) == true)) (phR (tSl true (tInt .i64)) ([0, 2, 3] : List Int)) (l 240) R49q := d2 rfl
        exact gstep_guard (Gj := true) (Bj := ((((((((y433 && y349.2.1) && (y435.getD default)) && y357.2.1) && (y437.getD default)) && y365.2.1) && (y439.getD default)) && (!y373.2.1)) && (y441.getD default)) && (y443.getD default)) rfl rfl rfl (gtrue (d3 rfl)) rfl (fun hG hB => ph_callP (vs := [v397, (.int .i64 y389.2.2), (l 240), (.int .i64 0)]) en14 (by simp only [List.map, ev, (show l 238 = v397 from f238g.1 (gandT rfl hB)), (show l 239 = (.int .i64 y389.2.2) from f239g.1 (gandT rfl hB))] <;> rfl) ((by have z := (gop_def c446 (gandT hG hB)); exact c_gauntletlaw06_list ((h398.mono (((le408.trans le420).trans le422).trans le430)).mono hle) (Sub.v (B := (tSl false (tInt .i64))) (sub_sl Sub.refl (fun _ => rfl)) (f240g.1 (gandT rfl hB))) z)) (fun _ _ h => h))
      · intro l R50q hle ha hd
        obtain ⟨d0, d1, _⟩ := hd
        have f237 : l 237 = (.bool (((((((((y433 && y349.2.1) && (y435.getD default)) && y357.2.1) && (y437.getD default)) && y365.2.1) && (y439.getD default)) && (!y373.2.1)) && (y441.getD default)) && (y443.getD default))) := d0 rfl
        have f241g : phG (true && ((((((((((y433 && y349.2.1) && (y435.getD default)) && y357.2.1) && (y437.getD default)) && y365.2.1) && (y439.getD default)) && (!y373.2.1)) && (y441.getD default)) && (y443.getD default)) == true)) (phX (.bool (y445.getD default))) (l 241) R50q := d1 rfl
        exact gstep_plain rfl rfl rfl (ph_val (val_and f237 (fun hb => (show l 241 = (.bool (y445.getD default)) from f241g.1 (gandT rfl hb))) rfl))
      · intro l R51q hle ha hd
        obtain ⟨d0, d1, _⟩ := hd
        have f242 : l 242 = (.bool ((((((((((y433 && y349.2.1) && (y435.getD default)) && y357.2.1) && (y437.getD default)) && y365.2.1) && (y439.getD default)) && (!y373.2.1)) && (y441.getD default)) && (y443.getD default)) && (y445.getD default))) := d0 rfl
        exact gstep_plain rfl rfl rfl (ph_val (val_move f242))
      · intro l R52q hle ha hd
        obtain ⟨d0, _⟩ := hd
        have a25 : l 25 = (.pointer (some ⟨b411, 0, none⟩)) := ha 25 rfl
        exact gstep_guard (Gj := true) (Bj := (((((((((y433 && y349.2.1) && (y435.getD default)) && y357.2.1) && (y437.getD default)) && y365.2.1) && (y439.getD default)) && (!y373.2.1)) && (y441.getD default)) && (y443.getD default)) && (y445.getD default)) rfl rfl rfl (gtrue (d0 rfl)) rfl (fun hG hB => ph_val (val_loadBA (i := 0) ag27 sz27 a25 rfl rfl rfl))
      · intro l R53q hle ha hd
        obtain ⟨d0, _⟩ := hd
        have a26 : l 26 = (.int .i64 y403.2) := ha 26 rfl
        exact gstep_guard (Gj := true) (Bj := (((((((((y433 && y349.2.1) && (y435.getD default)) && y357.2.1) && (y437.getD default)) && y365.2.1) && (y439.getD default)) && (!y373.2.1)) && (y441.getD default)) && (y443.getD default)) && (y445.getD default)) rfl rfl rfl (gtrue (d0 rfl)) rfl (fun hG hB => ph_val (val_move a26))
      · intro l R54q hle ha hd
        obtain ⟨d0, _⟩ := hd
        have a2 : l 2 = (.pointer (some ⟨b160, 0, none⟩)) := ha 2 rfl
        exact gstep_guard (Gj := true) (Bj := (((((((((y433 && y349.2.1) && (y435.getD default)) && y357.2.1) && (y437.getD default)) && y365.2.1) && (y439.getD default)) && (!y373.2.1)) && (y441.getD default)) && (y443.getD default)) && (y445.getD default)) rfl rfl rfl (gtrue (d0 rfl)) rfl (fun hG hB => ph_val (val_loadBA (i := 2) ag27 sz27 a2 rfl rfl rfl))
      · intro l R55q hle ha hd
        obtain ⟨d0, d1, d2, d3, d4, _⟩ := hd
        have f244g : phG (true && (((((((((((y433 && y349.2.1) && (y435.getD default)) && y357.2.1) && (y437.getD default)) && y365.2.1) && (y439.getD default)) && (!y373.2.1)) && (y441.getD default)) && (y443.getD default)) && (y445.getD default)) == true)) (phX (.agg #[(.int .i64 y403.1.inputs), (.int .i64 y403.1.outputs), v413])) (l 244) R55q := d0 rfl
        have f245g : phG (true && (((((((((((y433 && y349.2.1) && (y435.getD default)) && y357.2.1) && (y437.getD default)) && y365.2.1) && (y439.getD default)) && (!y373.2.1)) && (y441.getD default)) && (y443.getD default)) && (y445.getD default)) == true)) (phX (.int .i64 y403.2)) (l 245) R55q := d1 rfl
        have f246g : phG (true && (((((((((((y433 && y349.2.1) && (y435.getD default)) && y357.2.1) && (y437.getD default)) && y365.2.1) && (y439.getD default)) && (!y373.2.1)) && (y441.getD default)) && (y443.getD default)) && (y445.getD default)) == true)) (phX (.agg #[(.int .i64 2), (.int .i64 2), v155])) (l 246) R55q := d2 rfl
        exact gstep_guard (Gj := true) (Bj := (((((((((y433 && y349.2.1) && (y435.getD default)) && y357.2.1) && (y437.getD default)) && y365.2.1) && (y439.getD default)) && (!y373.2.1)) && (y441.getD default)) && (y443.getD default)) && (y445.getD default)) rfl rfl rfl (gtrue (d3 rfl)) rfl (fun hG hB => ph_callP (vs := [(.agg #[(.int .i64 y403.1.inputs), (.int .i64 y403.1.outputs), v413]), (.int .i64 y403.2), (.agg #[(.int .i64 2), (.int .i64 2), v155])]) en24 (by simp only [List.map, ev, (show l 244 = (.agg #[(.int .i64 y403.1.inputs), (.int .i64 y403.1.outputs), v413]) from f244g.1 (gandT rfl hB)), (show l 245 = (.int .i64 y403.2) from f245g.1 (gandT rfl hB)), (show l 246 = (.agg #[(.int .i64 2), (.int .i64 2), v155]) from f246g.1 (gandT rfl hB))] <;> rfl) ((by have z := (gop_def c448 (gandT hG hB)); exact c_gauntletlaw06_machine (⟨_, ⟨_, _, rfl, rfl, ⟨_, _, rfl, rfl, (rep_one rfl ((h414.mono ((le420.trans le422).trans le430)).mono hle))⟩⟩, rfl⟩ : VRep (kMach true true) _ _ (⟨y403.1.inputs, y403.1.outputs, y403.1.rows⟩ : Mach)) (⟨_, ⟨_, _, rfl, rfl, ⟨_, _, rfl, rfl, (rep_one rfl (Sub.v (B := (tSl false (tSl false kEdge))) (sub_sl (sub_sl Sub.refl (fun _ => rfl)) (fun _ => rfl)) ((h424.mono le430).mono hle)))⟩⟩, rfl⟩ : VRep (kMach false false) _ _ (⟨2, 2, ([([(⟨y92.to, y92.out⟩ : Edge), (⟨y98.to, y98.out⟩ : Edge)] : List Edge), ([(⟨y109.to, y109.out⟩ : Edge), (⟨y115.to, y115.out⟩ : Edge)] : List Edge), ([(⟨y126.to, y126.out⟩ : Edge), (⟨y132.to, y132.out⟩ : Edge)] : List Edge)] : List (List Edge))⟩ : Mach)) z)) (fun _ _ h => h))
      · intro l R56q hle ha hd
        obtain ⟨d0, d1, _⟩ := hd
        have f243 : l 243 = (.bool ((((((((((y433 && y349.2.1) && (y435.getD default)) && y357.2.1) && (y437.getD default)) && y365.2.1) && (y439.getD default)) && (!y373.2.1)) && (y441.getD default)) && (y443.getD default)) && (y445.getD default))) := d0 rfl
        have f247g : phG (true && (((((((((((y433 && y349.2.1) && (y435.getD default)) && y357.2.1) && (y437.getD default)) && y365.2.1) && (y439.getD default)) && (!y373.2.1)) && (y441.getD default)) && (y443.getD default)) && (y445.getD default)) == true)) (phX (.bool (y447.getD default))) (l 247) R56q := d1 rfl
        exact gstep_plain rfl rfl rfl (ph_val (val_and f243 (fun hb => (show l 247 = (.bool (y447.getD default)) from f247g.1 (gandT rfl hb))) rfl))
      · intro l R57q hle ha hd
        obtain ⟨d0, d1, _⟩ := hd
        have f248 : l 248 = (.bool (((((((((((y433 && y349.2.1) && (y435.getD default)) && y357.2.1) && (y437.getD default)) && y365.2.1) && (y439.getD default)) && (!y373.2.1)) && (y441.getD default)) && (y443.getD default)) && (y445.getD default)) && (y447.getD default))) := d0 rfl
        exact gstep_plain rfl rfl rfl (ph_val (val_move f248))
      · intro l R58q hle ha hd
        obtain ⟨d0, _⟩ := hd
        have a27 : l 27 = (.bool y415.1) := ha 27 rfl
        exact gstep_guard (Gj := true) (Bj := ((((((((((y433 && y349.2.1) && (y435.getD default)) && y357.2.1) && (y437.getD default)) && y365.2.1) && (y439.getD default)) && (!y373.2.1)) && (y441.getD default)) && (y443.getD default)) && (y445.getD default)) && (y447.getD default)) rfl rfl rfl (gtrue (d0 rfl)) rfl (fun hG hB => ph_val (val_move a27))
      · intro l R59q hle ha hd
        obtain ⟨d0, d1, _⟩ := hd
        have f250g : phG (true && ((((((((((((y433 && y349.2.1) && (y435.getD default)) && y357.2.1) && (y437.getD default)) && y365.2.1) && (y439.getD default)) && (!y373.2.1)) && (y441.getD default)) && (y443.getD default)) && (y445.getD default)) && (y447.getD default)) == true)) (phX (.bool y415.1)) (l 250) R59q := d0 rfl
        exact gstep_guard (Gj := true) (Bj := ((((((((((y433 && y349.2.1) && (y435.getD default)) && y357.2.1) && (y437.getD default)) && y365.2.1) && (y439.getD default)) && (!y373.2.1)) && (y441.getD default)) && (y443.getD default)) && (y445.getD default)) && (y447.getD default)) rfl rfl rfl (gtrue (d1 rfl)) rfl (fun hG hB => ph_val (val_not (show l 250 = (.bool y415.1) from f250g.1 (gandT rfl hB))))
      · intro l R60q hle ha hd
        obtain ⟨d0, d1, _⟩ := hd
        have f249 : l 249 = (.bool (((((((((((y433 && y349.2.1) && (y435.getD default)) && y357.2.1) && (y437.getD default)) && y365.2.1) && (y439.getD default)) && (!y373.2.1)) && (y441.getD default)) && (y443.getD default)) && (y445.getD default)) && (y447.getD default))) := d0 rfl
        have f251g : phG (true && ((((((((((((y433 && y349.2.1) && (y435.getD default)) && y357.2.1) && (y437.getD default)) && y365.2.1) && (y439.getD default)) && (!y373.2.1)) && (y441.getD default)) && (y443.getD default)) && (y445.getD default)) && (y447.getD default)) == true)) (phX (.bool (!y415.1))) (l 251) R60q := d1 rfl
        exact gstep_plain rfl rfl rfl (ph_val (val_and f249 (fun hb => (show l 251 = (.bool (!y415.1)) from f251g.1 (gandT rfl hb))) rfl))
      · intro l R61q hle ha hd
        obtain ⟨d0, d1, _⟩ := hd
        have f252 : l 252 = (.bool ((((((((((((y433 && y349.2.1) && (y435.getD default)) && y357.2.1) && (y437.getD default)) && y365.2.1) && (y439.getD default)) && (!y373.2.1)) && (y441.getD default)) && (y443.getD default)) && (y445.getD default)) && (y447.getD default)) && (!y415.1))) := d0 rfl
        exact gstep_plain rfl rfl rfl (ph_val (val_move f252))
      · intro l R62q hle ha hd
        obtain ⟨d0, _⟩ := hd
        have a28 : l 28 = (.int .i64 y415.2) := ha 28 rfl
        exact gstep_guard (Gj := true) (Bj := (((((((((((y433 && y349.2.1) && (y435.getD default)) && y357.2.1) && (y437.getD default)) && y365.2.1) && (y439.getD default)) && (!y373.2.1)) && (y441.getD default)) && (y443.getD default)) && (y445.getD default)) && (y447.getD default)) && (!y415.1)) rfl rfl rfl (gtrue (d0 rfl)) rfl (fun hG hB => ph_val (val_move a28))
      · intro l R63q hle ha hd
        obtain ⟨d0, d1, _⟩ := hd
        have f254g : phG (true && (((((((((((((y433 && y349.2.1) && (y435.getD default)) && y357.2.1) && (y437.getD default)) && y365.2.1) && (y439.getD default)) && (!y373.2.1)) && (y441.getD default)) && (y443.getD default)) && (y445.getD default)) && (y447.getD default)) && (!y415.1)) == true)) (phX (.int .i64 y415.2)) (l 254) R63q := d0 rfl
        exact gstep_guard (Gj := true) (Bj := (((((((((((y433 && y349.2.1) && (y435.getD default)) && y357.2.1) && (y437.getD default)) && y365.2.1) && (y439.getD default)) && (!y373.2.1)) && (y441.getD default)) && (y443.getD default)) && (y445.getD default)) && (y447.getD default)) && (!y415.1)) rfl rfl rfl (gtrue (d1 rfl)) rfl (fun hG hB => ph_val (val_eql (show l 254 = (.int .i64 y415.2) from f254g.1 (gandT rfl hB)) rfl))
      · intro l R64q hle ha hd
        obtain ⟨d0, d1, _⟩ := hd
        have f253 : l 253 = (.bool ((((((((((((y433 && y349.2.1) && (y435.getD default)) && y357.2.1) && (y437.getD default)) && y365.2.1) && (y439.getD default)) && (!y373.2.1)) && (y441.getD default)) && (y443.getD default)) && (y445.getD default)) && (y447.getD default)) && (!y415.1))) := d0 rfl
        have f255g : phG (true && (((((((((((((y433 && y349.2.1) && (y435.getD default)) && y357.2.1) && (y437.getD default)) && y365.2.1) && (y439.getD default)) && (!y373.2.1)) && (y441.getD default)) && (y443.getD default)) && (y445.getD default)) && (y447.getD default)) && (!y415.1)) == true)) (phX (.bool (decide (y415.2 = 0)))) (l 255) R64q := d1 rfl
        exact gstep_plain rfl rfl rfl (ph_val (val_and f253 (fun hb => (show l 255 = (.bool (decide (y415.2 = 0))) from f255g.1 (gandT rfl hb))) rfl))
      · intro l R65q hle ha hd
        obtain ⟨d0, d1, _⟩ := hd
        have f256 : l 256 = (.bool (((((((((((((y433 && y349.2.1) && (y435.getD default)) && y357.2.1) && (y437.getD default)) && y365.2.1) && (y439.getD default)) && (!y373.2.1)) && (y441.getD default)) && (y443.getD default)) && (y445.getD default)) && (y447.getD default)) && (!y415.1)) && (decide (y415.2 = 0)))) := d0 rfl
        exact gstep_plain rfl rfl rfl (ph_val (val_move f256))
      · intro l R66q hle ha hd
        obtain ⟨d0, _⟩ := hd
        have a29 : l 29 = v431 := ha 29 rfl
        exact gstep_guard (Gj := true) (Bj := ((((((((((((y433 && y349.2.1) && (y435.getD default)) && y357.2.1) && (y437.getD default)) && y365.2.1) && (y439.getD default)) && (!y373.2.1)) && (y441.getD default)) && (y443.getD default)) && (y445.getD default)) && (y447.getD default)) && (!y415.1)) && (decide (y415.2 = 0))) rfl rfl rfl (gtrue (d0 rfl)) rfl (fun hG hB => ph_val (val_move a29))
      · intro l R67q hle ha hd
        obtain ⟨d0, _⟩ := hd
        have a31 : l 31 = (.int .i64 y425.2.2) := ha 31 rfl
        exact gstep_guard (Gj := true) (Bj := ((((((((((((y433 && y349.2.1) && (y435.getD default)) && y357.2.1) && (y437.getD default)) && y365.2.1) && (y439.getD default)) && (!y373.2.1)) && (y441.getD default)) && (y443.getD default)) && (y445.getD default)) && (y447.getD default)) && (!y415.1)) && (decide (y415.2 = 0))) rfl rfl rfl (gtrue (d0 rfl)) rfl (fun hG hB => ph_val (val_move a31))
      · intro l R68q hle ha hd
        obtain ⟨d0, _⟩ := hd
        exact gstep_guard (Gj := true) (Bj := ((((((((((((y433 && y349.2.1) && (y435.getD default)) && y357.2.1) && (y437.getD default)) && y365.2.1) && (y439.getD default)) && (!y373.2.1)) && (y441.getD default)) && (y443.getD default)) && (y445.getD default)) && (y447.getD default)) && (!y415.1)) && (decide (y415.2 = 0))) rfl rfl rfl (gtrue (d0 rfl)) rfl (fun hG hB => ph_litT (T := (tInt .i64)) (X := ([0, (-1), 1, 2] : List Int)) (ps := [(0, (.int .i64 0)), (1, (.int .i64 (-1))), (2, (.int .i64 1)), (3, (.int .i64 2))]) (css := [[(.int .i64 0)], [(.int .i64 (-1))], [(.int .i64 1)], [(.int .i64 2)]]) Try.underlying36 zo3 rfl rfl (lit_reps ⟨rfl, rfl, rfl, rfl, trivial⟩) rfl rfl (by decide))
      · intro l R69q hle ha hd
        obtain ⟨d0, d1, d2, d3, d4, _⟩ := hd
        have f258g : phG (true && ((((((((((((((y433 && y349.2.1) && (y435.getD default)) && y357.2.1) && (y437.getD default)) && y365.2.1) && (y439.getD default)) && (!y373.2.1)) && (y441.getD default)) && (y443.getD default)) && (y445.getD default)) && (y447.getD default)) && (!y415.1)) && (decide (y415.2 = 0))) == true)) (phX v431) (l 258) R69q := d0 rfl
        have f259g : phG (true && ((((((((((((((y433 && y349.2.1) && (y435.getD default)) && y357.2.1) && (y437.getD default)) && y365.2.1) && (y439.getD default)) && (!y373.2.1)) && (y441.getD default)) && (y443.getD default)) && (y445.getD default)) && (y447.getD default)) && (!y415.1)) && (decide (y415.2 = 0))) == true)) (phX (.int .i64 y425.2.2)) (l 259) R69q := d1 rfl
        have f260g : phG (true && ((((((((((((((y433 && y349.2.1) && (y435.getD default)) && y357.2.1) && (y437.getD default)) && y365.2.1) && (y439.getD default)) && (!y373.2.1)) && (y441.getD default)) && (y443.getD default)) && (y445.getD default)) && (y447.getD default)) && (!y415.1)) && (decide (y415.2 = 0))) == true)) (phR (tSl true (tInt .i64)) ([0, (-1), 1, 2] : List Int)) (l 260) R69q := d2 rfl
        exact gstep_guard (Gj := true) (Bj := ((((((((((((y433 && y349.2.1) && (y435.getD default)) && y357.2.1) && (y437.getD default)) && y365.2.1) && (y439.getD default)) && (!y373.2.1)) && (y441.getD default)) && (y443.getD default)) && (y445.getD default)) && (y447.getD default)) && (!y415.1)) && (decide (y415.2 = 0))) rfl rfl rfl (gtrue (d3 rfl)) rfl (fun hG hB => ph_callP (vs := [v431, (.int .i64 y425.2.2), (l 260), (.int .i64 0)]) en14 (by simp only [List.map, ev, (show l 258 = v431 from f258g.1 (gandT rfl hB)), (show l 259 = (.int .i64 y425.2.2) from f259g.1 (gandT rfl hB))] <;> rfl) ((by have z := (gop_def c450 (gandT hG hB)); exact c_gauntletlaw06_list (h432.mono hle) (Sub.v (B := (tSl false (tInt .i64))) (sub_sl Sub.refl (fun _ => rfl)) (f260g.1 (gandT rfl hB))) z)) (fun _ _ h => h))
      · intro l R70q hle ha hd
        obtain ⟨d0, d1, _⟩ := hd
        have f257 : l 257 = (.bool (((((((((((((y433 && y349.2.1) && (y435.getD default)) && y357.2.1) && (y437.getD default)) && y365.2.1) && (y439.getD default)) && (!y373.2.1)) && (y441.getD default)) && (y443.getD default)) && (y445.getD default)) && (y447.getD default)) && (!y415.1)) && (decide (y415.2 = 0)))) := d0 rfl
        have f261g : phG (true && ((((((((((((((y433 && y349.2.1) && (y435.getD default)) && y357.2.1) && (y437.getD default)) && y365.2.1) && (y439.getD default)) && (!y373.2.1)) && (y441.getD default)) && (y443.getD default)) && (y445.getD default)) && (y447.getD default)) && (!y415.1)) && (decide (y415.2 = 0))) == true)) (phX (.bool (y449.getD default))) (l 261) R70q := d1 rfl
        exact gstep_plain rfl rfl rfl (ph_val (val_and f257 (fun hb => (show l 261 = (.bool (y449.getD default)) from f261g.1 (gandT rfl hb))) rfl))
      · intro l R71q hle ha hd
        obtain ⟨d0, d1, _⟩ := hd
        have f262 : l 262 = (.bool ((((((((((((((y433 && y349.2.1) && (y435.getD default)) && y357.2.1) && (y437.getD default)) && y365.2.1) && (y439.getD default)) && (!y373.2.1)) && (y441.getD default)) && (y443.getD default)) && (y445.getD default)) && (y447.getD default)) && (!y415.1)) && (decide (y415.2 = 0))) && (y449.getD default))) := d0 rfl
        exact gstep_plain rfl rfl rfl (ph_val (val_move f262))
      · intro l R72q hle ha hd
        obtain ⟨d0, _⟩ := hd
        have a30 : l 30 = (.bool y425.2.1) := ha 30 rfl
        exact gstep_guard (Gj := true) (Bj := (((((((((((((y433 && y349.2.1) && (y435.getD default)) && y357.2.1) && (y437.getD default)) && y365.2.1) && (y439.getD default)) && (!y373.2.1)) && (y441.getD default)) && (y443.getD default)) && (y445.getD default)) && (y447.getD default)) && (!y415.1)) && (decide (y415.2 = 0))) && (y449.getD default)) rfl rfl rfl (gtrue (d0 rfl)) rfl (fun hG hB => ph_val (val_move a30))
      · intro l R73q hle ha hd
        obtain ⟨d0, d1, _⟩ := hd
        have f263 : l 263 = (.bool ((((((((((((((y433 && y349.2.1) && (y435.getD default)) && y357.2.1) && (y437.getD default)) && y365.2.1) && (y439.getD default)) && (!y373.2.1)) && (y441.getD default)) && (y443.getD default)) && (y445.getD default)) && (y447.getD default)) && (!y415.1)) && (decide (y415.2 = 0))) && (y449.getD default))) := d0 rfl
        have f264g : phG (true && (((((((((((((((y433 && y349.2.1) && (y435.getD default)) && y357.2.1) && (y437.getD default)) && y365.2.1) && (y439.getD default)) && (!y373.2.1)) && (y441.getD default)) && (y443.getD default)) && (y445.getD default)) && (y447.getD default)) && (!y415.1)) && (decide (y415.2 = 0))) && (y449.getD default)) == true)) (phX (.bool y425.2.1)) (l 264) R73q := d1 rfl
        exact gstep_plain rfl rfl rfl (ph_val (val_and f263 (fun hb => (show l 264 = (.bool y425.2.1) from f264g.1 (gandT rfl hb))) rfl))
      · intro l R74q hle ha hd
        obtain ⟨d0, d1, d2, d3, d4, d5, d6, d7, d8, d9, d10, d11, d12, d13, d14, d15, d16, d17, d18, d19, d20, d21, d22, d23, d24, d25, d26, d27, d28, d29, d30, d31, d32, d33, d34, d35, d36, d37, d38, d39, d40, d41, d42, d43, d44, d45, d46, d47, d48, d49, d50, d51, d52, d53, d54, d55, d56, d57, d58, d59, d60, d61, d62, d63, d64, d65, d66, d67, d68, d69, d70, d71, d72, d73, d74, d75, _⟩ := hd
        have f265 : l 265 = (.bool (((((((((((((((y433 && y349.2.1) && (y435.getD default)) && y357.2.1) && (y437.getD default)) && y365.2.1) && (y439.getD default)) && (!y373.2.1)) && (y441.getD default)) && (y443.getD default)) && (y445.getD default)) && (y447.getD default)) && (!y415.1)) && (decide (y415.2 = 0))) && (y449.getD default)) && y425.2.1)) := d0 rfl
        exact gstep_plain rfl rfl rfl (ph_val (val_assign f265))
      intro v453 h454
      intro v455 h456
      intro v457 h458
      intro v459 h460
      intro v461 h462
      intro v463 h464
      intro v465 h466
      intro v467 h468
      intro v469 h470
      intro v471 h472
      intro v473 h474
      intro v475 h476
      intro v477 h478
      intro v479 h480
      intro v481 h482
      intro v483 h484
      intro v485 h486
      intro v487 h488
      intro v489 h490
      intro v491 h492
      intro v493 h494
      intro v495 h496
      intro v497 h498
      intro v499 h500
      intro v501 h502
      intro v503 h504
      intro v505 h506
      intro v507 h508
      intro v509 h510
      intro v511 h512
      intro v513 h514
      intro v515 h516
      intro v517 h518
      intro v519 h520
      intro v521 h522
      intro v523 h524
      intro v525 h526
      intro v527 h528
      intro v529 h530
      intro v531 h532
      intro v533 h534
      intro v535 h536
      intro v537 h538
      intro v539 h540
      intro v541 h542
      intro v543 h544
      intro v545 h546
      intro v547 h548
      intro v549 h550
      intro v551 h552
      intro v553 h554
      intro v555 h556
      intro v557 h558
      intro v559 h560
      intro v561 h562
      intro v563 h564
      intro v565 h566
      intro v567 h568
      intro v569 h570
      intro v571 h572
      intro v573 h574
      intro v575 h576
      intro v577 h578
      intro v579 h580
      intro v581 h582
      intro v583 h584
      intro v585 h586
      intro v587 h588
      intro v589 h590
      intro v591 h592
      intro v593 h594
      intro v595 h596
      intro v597 h598
      intro v599 h600
      intro v601 h602
      obtain rfl := Eq.symm h454
      obtain rfl := Eq.symm h456
      obtain rfl := Eq.symm h460
      obtain rfl := Eq.symm h462
      obtain rfl := Eq.symm h466
      obtain rfl := Eq.symm h468
      obtain rfl := Eq.symm h476
      obtain rfl := Eq.symm h478
      obtain rfl := Eq.symm h482
      obtain rfl := Eq.symm h484
      obtain rfl := Eq.symm h494
      obtain rfl := Eq.symm h496
      obtain rfl := Eq.symm h500
      obtain rfl := Eq.symm h502
      obtain rfl := Eq.symm h510
      obtain rfl := Eq.symm h512
      obtain rfl := Eq.symm h518
      obtain rfl := Eq.symm h520
      obtain rfl := Eq.symm h530
      obtain rfl := Eq.symm h532
      obtain rfl := Eq.symm h542
      obtain rfl := Eq.symm h544
      obtain rfl := Eq.symm h554
      obtain rfl := Eq.symm h556
      obtain rfl := Eq.symm h566
      obtain rfl := Eq.symm h568
      obtain rfl := Eq.symm h574
      obtain rfl := Eq.symm h576
      obtain rfl := Eq.symm h582
      obtain rfl := Eq.symm h584
      obtain rfl := Eq.symm h594
      obtain rfl := Eq.symm h596
      obtain rfl := Eq.symm h600
      obtain rfl := Eq.symm h602
      refine wo_nil ?_
      refine wg_ret ?_
      obtain rfl := Option.some.inj hd0
      refine body_end (D := []) (J := [box b411 [(.int .i64 y403.1.inputs), (.int .i64 y403.1.outputs), v413] 27, box b399 [(.int .i64 y389.1.inputs), (.int .i64 y389.1.outputs), v401] 27, box b160 [(.int .i64 2), (.int .i64 2), v155] 27, box b90 [(.int .i64 2), (.int .i64 2), v85] 27]) (rs := [.tmp 0]) (vs := [(.bool (((((((((((((((y433 && y349.2.1) && (y435.getD default)) && y357.2.1) && (y437.getD default)) && y365.2.1) && (y439.getD default)) && (!y373.2.1)) && (y441.getD default)) && (y443.getD default)) && (y445.getD default)) && (y447.getD default)) && (!y415.1)) && (decide (y415.2 = 0))) && (y449.getD default)) && y425.2.1))]) (((((((((((((((((((((((((((((((((((le6.trans le12).trans le23).trans le29).trans le40).trans le46).trans le57).trans le63).trans le70).trans le74).trans le78).trans le82).trans le97).trans le103).trans le114).trans le120).trans le131).trans le137).trans le144).trans le148).trans le152).trans le163).trans le171).trans le179).trans le203).trans le354).trans le362).trans le370).trans le378).trans le386).trans le394).trans le408).trans le420).trans le422).trans le430).trans le452) rfl rfl ⟨rfl, trivial⟩ ?_
      exact ⟨rfl, rfl⟩
end GV
end Go.Proofs.Ytncblcdhmcmkmaa
