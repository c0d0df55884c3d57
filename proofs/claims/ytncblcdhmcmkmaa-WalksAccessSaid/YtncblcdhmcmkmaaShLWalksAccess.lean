/- The walks of the functions; printed. -/
import Derived.Test.YtncblcdhmcmkmaaShWe
import Derived.Test.YtncblcdhmcmkmaaShXa
import Derived.Test.YtncblcdhmcmkmaaShXb
import Derived.Test.YtncblcdhmcmkmaaShXc
import Derived.Test.YtncblcdhmcmkmaaRows
namespace Go.Proofs.Ytncblcdhmcmkmaa
namespace GV
open Go.IntWalk
set_option linter.unusedVariables false
set_option linter.unusedSimpArgs false
set_option maxRecDepth 100000
set_option maxHeartbeats 20000000
theorem c_gauntletlaw06_WalksAccess {N : Nat} {R : RH} {x : MDat} {v_x : Value} (h_x : VRep (kMDat false) R v_x x) {r : Bool} (hd0 : gauntletlaw06_WalksAccess N x = some r) : CallP Try.prog 3 #[v_x] R (fun v R' => v = (.bool r)) := by
  refine callP_of_wg (args := [v_x]) Try.func3 rfl rfl fun A => ?_
  rw [gauntletlaw06_WalksAccess] at hd0
  refine wg_seq ?_
  refine wg_region ?_
  refine wo_boxR (T := (kMDat false)) rfl rfl h_x fun v1 R3 le4 h2 => ?_
  refine wo_v rfl (val_assign (v := (.bool false)) rfl) ?_
  refine wo_nil ?_
  refine wg_seq ?_
  refine wg_region ?_
  refine wo_loadR rfl ty24 rfl h2 fun v5 h6 => ?_
  replace hd0 := bd_some hd0; obtain ⟨y7, c8, hd0⟩ := hd0
  refine wo_callP rfl en11 rfl (c_gauntletlaw04_M_Of h6 c8) fun v9 R11 le12 h10 => ?_
  refine wo_alloc rfl za27 fun b13 => ?_
  obtain ⟨v15, rfl, h16⟩ := cases_Mach h10
  refine wo_store (i := 0) (vs := [(.int .i64 y7.inputs), (.int .i64 y7.outputs), v15]) sz27 rfl rfl rfl rfl rfl rfl (one_cons rfl (one_cons rfl (one_cons (sl_one h16) one_nil))) ?_
  refine wo_nil ?_
  refine wg_seq ?_
  refine wg_region ?_
  refine wo_v rfl (val_loadBA (i := 0) ag27 sz27 rfl rfl rfl rfl) ?_
  replace hd0 := bd_some hd0; obtain ⟨y17, c18, hd0⟩ := hd0
  refine wo_callP rfl en12 rfl (c_walks_Access (⟨_, ⟨_, _, rfl, rfl, ⟨_, _, rfl, rfl, (rep_one rfl h16)⟩⟩, rfl⟩ : VRep (kMach false false) _ _ (⟨y7.inputs, y7.outputs, y7.rows⟩ : Mach)) c18) fun v19 R21 le22 h20 => ?_
  obtain ⟨v23, v25, rfl, h24, h26⟩ := h20
  refine wo_v rfl (val_move (v := (.tuple #[v23, v25, (.int .i64 y17.2.2)])) rfl) ?_
  refine wo_v rfl (val_extract rfl rfl) ?_
  refine wo_v rfl (val_extract rfl rfl) ?_
  refine wo_v rfl (val_extract rfl rfl) ?_
  refine wo_v rfl (val_assign (v := v23) rfl) ?_
  refine wo_v rfl (val_assign (v := v25) rfl) ?_
  refine wo_v rfl (val_assign (v := (.int .i64 y17.2.2)) rfl) ?_
  refine wo_nil ?_
  refine wg_seq ?_
  refine wg_region ?_
  refine wo_v rfl (val_loadBA (i := 0) ag27 sz27 rfl rfl rfl rfl) ?_
  replace hd0 := bd_some hd0; obtain ⟨y27, c28, hd0⟩ := hd0
  refine wo_callP rfl en13 rfl (c_gauntletref06_Access (⟨_, ⟨_, _, rfl, rfl, ⟨_, _, rfl, rfl, (rep_one rfl (h16.mono le22))⟩⟩, rfl⟩ : VRep (kMach false false) _ _ (⟨y7.inputs, y7.outputs, y7.rows⟩ : Mach)) c28) fun v29 R31 le32 h30 => ?_
  obtain ⟨v33, v35, rfl, h34, h36⟩ := h30
  refine wo_v rfl (val_move (v := (.tuple #[v33, v35])) rfl) ?_
  refine wo_v rfl (val_extract rfl rfl) ?_
  refine wo_v rfl (val_extract rfl rfl) ?_
  refine wo_v rfl (val_assign (v := v33) rfl) ?_
  refine wo_v rfl (val_assign (v := v35) rfl) ?_
  refine wo_nil ?_
  refine wg_seq ?_
  refine wg_seq ?_
  refine wg_guarded 30 [] [phX (.int .i64 y17.2.2), phX (.bool (decide (y17.2.2 ≠ 0))), phX (.bool (decide (y17.2.2 ≠ 0))), phG (true && ((decide (y17.2.2 ≠ 0)) == false)) (phX v23), phG (true && ((decide (y17.2.2 ≠ 0)) == false)) (phX (.int .i64 (↑y17.1.length : Int))), phG (true && ((decide (y17.2.2 ≠ 0)) == false)) (phX v33), phG (true && ((decide (y17.2.2 ≠ 0)) == false)) (phX (.int .i64 (↑y27.1.length : Int))), phG (true && ((decide (y17.2.2 ≠ 0)) == false)) (phX (.bool (decide ((↑y17.1.length : Int) ≠ (↑y27.1.length : Int))))), phX (.bool ((decide (y17.2.2 ≠ 0)) || (decide ((↑y17.1.length : Int) ≠ (↑y27.1.length : Int))))), phX (.bool ((decide (y17.2.2 ≠ 0)) || (decide ((↑y17.1.length : Int) ≠ (↑y27.1.length : Int))))), phG (true && (((decide (y17.2.2 ≠ 0)) || (decide ((↑y17.1.length : Int) ≠ (↑y27.1.length : Int)))) == false)) (phX v25), phG (true && (((decide (y17.2.2 ≠ 0)) || (decide ((↑y17.1.length : Int) ≠ (↑y27.1.length : Int)))) == false)) (phX (.int .i64 (↑y17.2.1.length : Int))), phG (true && (((decide (y17.2.2 ≠ 0)) || (decide ((↑y17.1.length : Int) ≠ (↑y27.1.length : Int)))) == false)) (phX v35), phG (true && (((decide (y17.2.2 ≠ 0)) || (decide ((↑y17.1.length : Int) ≠ (↑y27.1.length : Int)))) == false)) (phX (.int .i64 (↑y27.2.length : Int))), phG (true && (((decide (y17.2.2 ≠ 0)) || (decide ((↑y17.1.length : Int) ≠ (↑y27.1.length : Int)))) == false)) (phX (.bool (decide ((↑y17.2.1.length : Int) ≠ (↑y27.2.length : Int))))), phX (.bool (((decide (y17.2.2 ≠ 0)) || (decide ((↑y17.1.length : Int) ≠ (↑y27.1.length : Int)))) || (decide ((↑y17.2.1.length : Int) ≠ (↑y27.2.length : Int))))), phX (.bool (((decide (y17.2.2 ≠ 0)) || (decide ((↑y17.1.length : Int) ≠ (↑y27.1.length : Int)))) || (decide ((↑y17.2.1.length : Int) ≠ (↑y27.2.length : Int))))), phG (true && ((((decide (y17.2.2 ≠ 0)) || (decide ((↑y17.1.length : Int) ≠ (↑y27.1.length : Int)))) || (decide ((↑y17.2.1.length : Int) ≠ (↑y27.2.length : Int)))) == false)) (phX v23), phG (true && ((((decide (y17.2.2 ≠ 0)) || (decide ((↑y17.1.length : Int) ≠ (↑y27.1.length : Int)))) || (decide ((↑y17.2.1.length : Int) ≠ (↑y27.2.length : Int)))) == false)) (phX (.int .i64 (↑y17.1.length : Int))), phG (true && ((((decide (y17.2.2 ≠ 0)) || (decide ((↑y17.1.length : Int) ≠ (↑y27.1.length : Int)))) || (decide ((↑y17.2.1.length : Int) ≠ (↑y27.2.length : Int)))) == false)) (phX v23), phG (true && ((((decide (y17.2.2 ≠ 0)) || (decide ((↑y17.1.length : Int) ≠ (↑y27.1.length : Int)))) || (decide ((↑y17.2.1.length : Int) ≠ (↑y27.2.length : Int)))) == false)) (phX (.int .i64 (↑y17.1.length : Int))), phG (true && ((((decide (y17.2.2 ≠ 0)) || (decide ((↑y17.1.length : Int) ≠ (↑y27.1.length : Int)))) || (decide ((↑y17.2.1.length : Int) ≠ (↑y27.2.length : Int)))) == false)) (phX (.bool (decide ((↑y17.1.length : Int) ≠ (↑y17.1.length : Int))))), phX (.bool ((((decide (y17.2.2 ≠ 0)) || (decide ((↑y17.1.length : Int) ≠ (↑y27.1.length : Int)))) || (decide ((↑y17.2.1.length : Int) ≠ (↑y27.2.length : Int)))) || (decide ((↑y17.1.length : Int) ≠ (↑y17.1.length : Int))))), phX (.bool ((((decide (y17.2.2 ≠ 0)) || (decide ((↑y17.1.length : Int) ≠ (↑y27.1.length : Int)))) || (decide ((↑y17.2.1.length : Int) ≠ (↑y27.2.length : Int)))) || (decide ((↑y17.1.length : Int) ≠ (↑y17.1.length : Int))))), phG (true && (((((decide (y17.2.2 ≠ 0)) || (decide ((↑y17.1.length : Int) ≠ (↑y27.1.length : Int)))) || (decide ((↑y17.2.1.length : Int) ≠ (↑y27.2.length : Int)))) || (decide ((↑y17.1.length : Int) ≠ (↑y17.1.length : Int)))) == false)) (phX v25), phG (true && (((((decide (y17.2.2 ≠ 0)) || (decide ((↑y17.1.length : Int) ≠ (↑y27.1.length : Int)))) || (decide ((↑y17.2.1.length : Int) ≠ (↑y27.2.length : Int)))) || (decide ((↑y17.1.length : Int) ≠ (↑y17.1.length : Int)))) == false)) (phX (.int .i64 (↑y17.2.1.length : Int))), phG (true && (((((decide (y17.2.2 ≠ 0)) || (decide ((↑y17.1.length : Int) ≠ (↑y27.1.length : Int)))) || (decide ((↑y17.2.1.length : Int) ≠ (↑y27.2.length : Int)))) || (decide ((↑y17.1.length : Int) ≠ (↑y17.1.length : Int)))) == false)) (phX v25), phG (true && (((((decide (y17.2.2 ≠ 0)) || (decide ((↑y17.1.length : Int) ≠ (↑y27.1.length : Int)))) || (decide ((↑y17.2.1.length : Int) ≠ (↑y27.2.length : Int)))) || (decide ((↑y17.1.length : Int) ≠ (↑y17.1.length : Int)))) == false)) (phX (.int .i64 (↑y17.2.1.length : Int))), phG (true && (((((decide (y17.2.2 ≠ 0)) || (decide ((↑y17.1.length : Int) ≠ (↑y27.1.length : Int)))) || (decide ((↑y17.2.1.length : Int) ≠ (↑y27.2.length : Int)))) || (decide ((↑y17.1.length : Int) ≠ (↑y17.1.length : Int)))) == false)) (phX (.bool (decide ((↑y17.2.1.length : Int) ≠ (↑y17.2.1.length : Int))))), phX (.bool (((((decide (y17.2.2 ≠ 0)) || (decide ((↑y17.1.length : Int) ≠ (↑y27.1.length : Int)))) || (decide ((↑y17.2.1.length : Int) ≠ (↑y27.2.length : Int)))) || (decide ((↑y17.1.length : Int) ≠ (↑y17.1.length : Int)))) || (decide ((↑y17.2.1.length : Int) ≠ (↑y17.2.1.length : Int)))))] (by kernel_rfl) (by kernel_rfl) (monoOk_of ⟨mono_x, mono_x, mono_x, (mono_g mono_x), (mono_g mono_x), (mono_g mono_x), (mono_g mono_x), (mono_g mono_x), mono_x, mono_x, (mono_g mono_x), (mono_g mono_x), (mono_g mono_x), (mono_g mono_x), (mono_g mono_x), mono_x, mono_x, (mono_g mono_x), (mono_g mono_x), (mono_g mono_x), (mono_g mono_x), (mono_g mono_x), mono_x, mono_x, (mono_g mono_x), (mono_g mono_x), (mono_g mono_x), (mono_g mono_x), (mono_g mono_x), mono_x, trivial⟩) ⟨?_, ?_, ?_, ?_, ?_, ?_, ?_, ?_, ?_, ?_, ?_, ?_, ?_, ?_, ?_, ?_, ?_, ?_, ?_, ?_, ?_, ?_, ?_, ?_, ?_, ?_, ?_, ?_, ?_, ?_, trivial⟩ fun R37 le38 => ?_
  · intro l R0q hle ha hd
    have a6 : l 6 = (.int .i64 y17.2.2) := ha 6 rfl
    exact gstep_plain rfl rfl rfl (ph_val (val_move a6))
  · intro l R1q hle ha hd
    obtain ⟨d0, _⟩ := hd
    have f28 : l 28 = (.int .i64 y17.2.2) := d0 rfl
    exact gstep_plain rfl rfl rfl (ph_val (val_neq f28 rfl))
  · intro l R2q hle ha hd
    obtain ⟨d0, _⟩ := hd
    have f29 : l 29 = (.bool (decide (y17.2.2 ≠ 0))) := d0 rfl
    exact gstep_plain rfl rfl rfl (ph_val (val_move f29))
  · intro l R3q hle ha hd
    obtain ⟨d0, _⟩ := hd
    have a4 : l 4 = v23 := ha 4 rfl
    exact gstep_guard (Gj := true) (Bj := decide (y17.2.2 ≠ 0)) rfl rfl rfl (gtrue (d0 rfl)) rfl (fun hG hB => ph_val (val_move a4))
  · intro l R4q hle ha hd
    obtain ⟨d0, d1, _⟩ := hd
    have f31g : phG (true && ((decide (y17.2.2 ≠ 0)) == false)) (phX v23) (l 31) R4q := d0 rfl
    exact gstep_guard (Gj := true) (Bj := decide (y17.2.2 ≠ 0)) rfl rfl rfl (gtrue (d1 rfl)) rfl (fun hG hB => ph_val (val_lenR rfl Try.underlying29 (show l 31 = v23 from f31g.1 (gandT rfl hB)) (sl_s ((h24.mono le32).mono hle))))
  · intro l R5q hle ha hd
    obtain ⟨d0, _⟩ := hd
    have a7 : l 7 = v33 := ha 7 rfl
    exact gstep_guard (Gj := true) (Bj := decide (y17.2.2 ≠ 0)) rfl rfl rfl (gtrue (d0 rfl)) rfl (fun hG hB => ph_val (val_move a7))
  · intro l R6q hle ha hd
    obtain ⟨d0, d1, _⟩ := hd
    have f33g : phG (true && ((decide (y17.2.2 ≠ 0)) == false)) (phX v33) (l 33) R6q := d0 rfl
    exact gstep_guard (Gj := true) (Bj := decide (y17.2.2 ≠ 0)) rfl rfl rfl (gtrue (d1 rfl)) rfl (fun hG hB => ph_val (val_lenR rfl Try.underlying29 (show l 33 = v33 from f33g.1 (gandT rfl hB)) (sl_s (h34.mono hle))))
  · intro l R7q hle ha hd
    obtain ⟨d0, d1, d2, _⟩ := hd
    have f32g : phG (true && ((decide (y17.2.2 ≠ 0)) == false)) (phX (.int .i64 (↑y17.1.length : Int))) (l 32) R7q := d0 rfl
    have f34g : phG (true && ((decide (y17.2.2 ≠ 0)) == false)) (phX (.int .i64 (↑y27.1.length : Int))) (l 34) R7q := d1 rfl
    exact gstep_guard (Gj := true) (Bj := decide (y17.2.2 ≠ 0)) rfl rfl rfl (gtrue (d2 rfl)) rfl (fun hG hB => ph_val (val_neq (show l 32 = (.int .i64 (↑y17.1.length : Int)) from f32g.1 (gandT rfl hB)) (show l 34 = (.int .i64 (↑y27.1.length : Int)) from f34g.1 (gandT rfl hB))))
  · intro l R8q hle ha hd
    obtain ⟨d0, d1, _⟩ := hd
    have f30 : l 30 = (.bool (decide (y17.2.2 ≠ 0))) := d0 rfl
    have f35g : phG (true && ((decide (y17.2.2 ≠ 0)) == false)) (phX (.bool (decide ((↑y17.1.length : Int) ≠ (↑y27.1.length : Int))))) (l 35) R8q := d1 rfl
    exact gstep_plain rfl rfl rfl (ph_val (val_or f30 rfl (fun hb => (show l 35 = (.bool (decide ((↑y17.1.length : Int) ≠ (↑y27.1.length : Int)))) from f35g.1 (gandT rfl hb)))))
  · intro l R9q hle ha hd
    obtain ⟨d0, d1, _⟩ := hd
    have f36 : l 36 = (.bool ((decide (y17.2.2 ≠ 0)) || (decide ((↑y17.1.length : Int) ≠ (↑y27.1.length : Int))))) := d0 rfl
    exact gstep_plain rfl rfl rfl (ph_val (val_move f36))
  · intro l R10q hle ha hd
    obtain ⟨d0, _⟩ := hd
    have a5 : l 5 = v25 := ha 5 rfl
    exact gstep_guard (Gj := true) (Bj := (decide (y17.2.2 ≠ 0)) || (decide ((↑y17.1.length : Int) ≠ (↑y27.1.length : Int)))) rfl rfl rfl (gtrue (d0 rfl)) rfl (fun hG hB => ph_val (val_move a5))
  · intro l R11q hle ha hd
    obtain ⟨d0, d1, _⟩ := hd
    have f38g : phG (true && (((decide (y17.2.2 ≠ 0)) || (decide ((↑y17.1.length : Int) ≠ (↑y27.1.length : Int)))) == false)) (phX v25) (l 38) R11q := d0 rfl
    exact gstep_guard (Gj := true) (Bj := (decide (y17.2.2 ≠ 0)) || (decide ((↑y17.1.length : Int) ≠ (↑y27.1.length : Int)))) rfl rfl rfl (gtrue (d1 rfl)) rfl (fun hG hB => ph_val (val_lenR rfl Try.underlying30 (show l 38 = v25 from f38g.1 (gandT rfl hB)) (sl_s ((h26.mono le32).mono hle))))
  · intro l R12q hle ha hd
    obtain ⟨d0, _⟩ := hd
    have a8 : l 8 = v35 := ha 8 rfl
    exact gstep_guard (Gj := true) (Bj := (decide (y17.2.2 ≠ 0)) || (decide ((↑y17.1.length : Int) ≠ (↑y27.1.length : Int)))) rfl rfl rfl (gtrue (d0 rfl)) rfl (fun hG hB => ph_val (val_move a8))
  · intro l R13q hle ha hd
    obtain ⟨d0, d1, _⟩ := hd
    have f40g : phG (true && (((decide (y17.2.2 ≠ 0)) || (decide ((↑y17.1.length : Int) ≠ (↑y27.1.length : Int)))) == false)) (phX v35) (l 40) R13q := d0 rfl
    exact gstep_guard (Gj := true) (Bj := (decide (y17.2.2 ≠ 0)) || (decide ((↑y17.1.length : Int) ≠ (↑y27.1.length : Int)))) rfl rfl rfl (gtrue (d1 rfl)) rfl (fun hG hB => ph_val (val_lenR rfl Try.underlying30 (show l 40 = v35 from f40g.1 (gandT rfl hB)) (sl_s (h36.mono hle))))
  · intro l R14q hle ha hd
    obtain ⟨d0, d1, d2, _⟩ := hd
    have f39g : phG (true && (((decide (y17.2.2 ≠ 0)) || (decide ((↑y17.1.length : Int) ≠ (↑y27.1.length : Int)))) == false)) (phX (.int .i64 (↑y17.2.1.length : Int))) (l 39) R14q := d0 rfl
    have f41g : phG (true && (((decide (y17.2.2 ≠ 0)) || (decide ((↑y17.1.length : Int) ≠ (↑y27.1.length : Int)))) == false)) (phX (.int .i64 (↑y27.2.length : Int))) (l 41) R14q := d1 rfl
    exact gstep_guard (Gj := true) (Bj := (decide (y17.2.2 ≠ 0)) || (decide ((↑y17.1.length : Int) ≠ (↑y27.1.length : Int)))) rfl rfl rfl (gtrue (d2 rfl)) rfl (fun hG hB => ph_val (val_neq (show l 39 = (.int .i64 (↑y17.2.1.length : Int)) from f39g.1 (gandT rfl hB)) (show l 41 = (.int .i64 (↑y27.2.length : Int)) from f41g.1 (gandT rfl hB))))
  · intro l R15q hle ha hd
    obtain ⟨d0, d1, _⟩ := hd
    have f37 : l 37 = (.bool ((decide (y17.2.2 ≠ 0)) || (decide ((↑y17.1.length : Int) ≠ (↑y27.1.length : Int))))) := d0 rfl
    have f42g : phG (true && (((decide (y17.2.2 ≠ 0)) || (decide ((↑y17.1.length : Int) ≠ (↑y27.1.length : Int)))) == false)) (phX (.bool (decide ((↑y17.2.1.length : Int) ≠ (↑y27.2.length : Int))))) (l 42) R15q := d1 rfl
    exact gstep_plain rfl rfl rfl (ph_val (val_or f37 rfl (fun hb => (show l 42 = (.bool (decide ((↑y17.2.1.length : Int) ≠ (↑y27.2.length : Int)))) from f42g.1 (gandT rfl hb)))))
  · intro l R16q hle ha hd
    obtain ⟨d0, d1, _⟩ := hd
    have f43 : l 43 = (.bool (((decide (y17.2.2 ≠ 0)) || (decide ((↑y17.1.length : Int) ≠ (↑y27.1.length : Int)))) || (decide ((↑y17.2.1.length : Int) ≠ (↑y27.2.length : Int))))) := d0 rfl
    exact gstep_plain rfl rfl rfl (ph_val (val_move f43))
  · intro l R17q hle ha hd
    obtain ⟨d0, _⟩ := hd
    have a4 : l 4 = v23 := ha 4 rfl
    exact gstep_guard (Gj := true) (Bj := ((decide (y17.2.2 ≠ 0)) || (decide ((↑y17.1.length : Int) ≠ (↑y27.1.length : Int)))) || (decide ((↑y17.2.1.length : Int) ≠ (↑y27.2.length : Int)))) rfl rfl rfl (gtrue (d0 rfl)) rfl (fun hG hB => ph_val (val_move a4))
  · intro l R18q hle ha hd
    obtain ⟨d0, d1, _⟩ := hd
    have f45g : phG (true && ((((decide (y17.2.2 ≠ 0)) || (decide ((↑y17.1.length : Int) ≠ (↑y27.1.length : Int)))) || (decide ((↑y17.2.1.length : Int) ≠ (↑y27.2.length : Int)))) == false)) (phX v23) (l 45) R18q := d0 rfl
    exact gstep_guard (Gj := true) (Bj := ((decide (y17.2.2 ≠ 0)) || (decide ((↑y17.1.length : Int) ≠ (↑y27.1.length : Int)))) || (decide ((↑y17.2.1.length : Int) ≠ (↑y27.2.length : Int)))) rfl rfl rfl (gtrue (d1 rfl)) rfl (fun hG hB => ph_val (val_capT rfl Try.underlying29 (show l 45 = v23 from f45g.1 (gandT rfl hB)) ((h24.mono le32).mono hle)))
  · intro l R19q hle ha hd
    obtain ⟨d0, _⟩ := hd
    have a4 : l 4 = v23 := ha 4 rfl
    exact gstep_guard (Gj := true) (Bj := ((decide (y17.2.2 ≠ 0)) || (decide ((↑y17.1.length : Int) ≠ (↑y27.1.length : Int)))) || (decide ((↑y17.2.1.length : Int) ≠ (↑y27.2.length : Int)))) rfl rfl rfl (gtrue (d0 rfl)) rfl (fun hG hB => ph_val (val_move a4))
  · intro l R20q hle ha hd
    obtain ⟨d0, d1, _⟩ := hd
    have f47g : phG (true && ((((decide (y17.2.2 ≠ 0)) || (decide ((↑y17.1.length : Int) ≠ (↑y27.1.length : Int)))) || (decide ((↑y17.2.1.length : Int) ≠ (↑y27.2.length : Int)))) == false)) (phX v23) (l 47) R20q := d0 rfl
    exact gstep_guard (Gj := true) (Bj := ((decide (y17.2.2 ≠ 0)) || (decide ((↑y17.1.length : Int) ≠ (↑y27.1.length : Int)))) || (decide ((↑y17.2.1.length : Int) ≠ (↑y27.2.length : Int)))) rfl rfl rfl (gtrue (d1 rfl)) rfl (fun hG hB => ph_val (val_lenR rfl Try.underlying29 (show l 47 = v23 from f47g.1 (gandT rfl hB)) (sl_s ((h24.mono le32).mono hle))))
  · intro l R21q hle ha hd
    obtain ⟨d0, d1, d2, _⟩ := hd
    have f46g : phG (true && ((((decide (y17.2.2 ≠ 0)) || (decide ((↑y17.1.length : Int) ≠ (↑y27.1.length : Int)))) || (decide ((↑y17.2.1.length : Int) ≠ (↑y27.2.length : Int)))) == false)) (phX (.int .i64 (↑y17.1.length : Int))) (l 46) R21q := d0 rfl
    have f48g : phG (true && ((((decide (y17.2.2 ≠ 0)) || (decide ((↑y17.1.length : Int) ≠ (↑y27.1.length : Int)))) || (decide ((↑y17.2.1.length : Int) ≠ (↑y27.2.length : Int)))) == false)) (phX (.int .i64 (↑y17.1.length : Int))) (l 48) R21q := d1 rfl
    exact gstep_guard (Gj := true) (Bj := ((decide (y17.2.2 ≠ 0)) || (decide ((↑y17.1.length : Int) ≠ (↑y27.1.length : Int)))) || (decide ((↑y17.2.1.length : Int) ≠ (↑y27.2.length : Int)))) rfl rfl rfl (gtrue (d2 rfl)) rfl (fun hG hB => ph_val (val_neq (show l 46 = (.int .i64 (↑y17.1.length : Int)) from f46g.1 (gandT rfl hB)) (show l 48 = (.int .i64 (↑y17.1.length : Int)) from f48g.1 (gandT rfl hB))))
  · intro l R22q hle ha hd
    obtain ⟨d0, d1, _⟩ := hd
    have f44 : l 44 = (.bool (((decide (y17.2.2 ≠ 0)) || (decide ((↑y17.1.length : Int) ≠ (↑y27.1.length : Int)))) || (decide ((↑y17.2.1.length : Int) ≠ (↑y27.2.length : Int))))) := d0 rfl
    have f49g : phG (true && ((((decide (y17.2.2 ≠ 0)) || (decide ((↑y17.1.length : Int) ≠ (↑y27.1.length : Int)))) || (decide ((↑y17.2.1.length : Int) ≠ (↑y27.2.length : Int)))) == false)) (phX (.bool (decide ((↑y17.1.length : Int) ≠ (↑y17.1.length : Int))))) (l 49) R22q := d1 rfl
    exact gstep_plain rfl rfl rfl (ph_val (val_or f44 rfl (fun hb => (show l 49 = (.bool (decide ((↑y17.1.length : Int) ≠ (↑y17.1.length : Int)))) from f49g.1 (gandT rfl hb)))))
  · intro l R23q hle ha hd
    obtain ⟨d0, d1, _⟩ := hd
    have f50 : l 50 = (.bool ((((decide (y17.2.2 ≠ 0)) || (decide ((↑y17.1.length : Int) ≠ (↑y27.1.length : Int)))) || (decide ((↑y17.2.1.length : Int) ≠ (↑y27.2.length : Int)))) || (decide ((↑y17.1.length : Int) ≠ (↑y17.1.length : Int))))) := d0 rfl
    exact gstep_plain rfl rfl rfl (ph_val (val_move f50))
  · intro l R24q hle ha hd
    obtain ⟨d0, _⟩ := hd
    have a5 : l 5 = v25 := ha 5 rfl
    exact gstep_guard (Gj := true) (Bj := (((decide (y17.2.2 ≠ 0)) || (decide ((↑y17.1.length : Int) ≠ (↑y27.1.length : Int)))) || (decide ((↑y17.2.1.length : Int) ≠ (↑y27.2.length : Int)))) || (decide ((↑y17.1.length : Int) ≠ (↑y17.1.length : Int)))) rfl rfl rfl (gtrue (d0 rfl)) rfl (fun hG hB => ph_val (val_move a5))
  · intro l R25q hle ha hd
    obtain ⟨d0, d1, _⟩ := hd
    have f52g : phG (true && (((((decide (y17.2.2 ≠ 0)) || (decide ((↑y17.1.length : Int) ≠ (↑y27.1.length : Int)))) || (decide ((↑y17.2.1.length : Int) ≠ (↑y27.2.length : Int)))) || (decide ((↑y17.1.length : Int) ≠ (↑y17.1.length : Int)))) == false)) (phX v25) (l 52) R25q := d0 rfl
    exact gstep_guard (Gj := true) (Bj := (((decide (y17.2.2 ≠ 0)) || (decide ((↑y17.1.length : Int) ≠ (↑y27.1.length : Int)))) || (decide ((↑y17.2.1.length : Int) ≠ (↑y27.2.length : Int)))) || (decide ((↑y17.1.length : Int) ≠ (↑y17.1.length : Int)))) rfl rfl rfl (gtrue (d1 rfl)) rfl (fun hG hB => ph_val (val_capT rfl Try.underlying30 (show l 52 = v25 from f52g.1 (gandT rfl hB)) ((h26.mono le32).mono hle)))
  · intro l R26q hle ha hd
    obtain ⟨d0, _⟩ := hd
    have a5 : l 5 = v25 := ha 5 rfl
    exact gstep_guard (Gj := true) (Bj := (((decide (y17.2.2 ≠ 0)) || (decide ((↑y17.1.length : Int) ≠ (↑y27.1.length : Int)))) || (decide ((↑y17.2.1.length : Int) ≠ (↑y27.2.length : Int)))) || (decide ((↑y17.1.length : Int) ≠ (↑y17.1.length : Int)))) rfl rfl rfl (gtrue (d0 rfl)) rfl (fun hG hB => ph_val (val_move a5))
  · intro l R27q hle ha hd
    obtain ⟨d0, d1, _⟩ := hd
    have f54g : phG (true && (((((decide (y17.2.2 ≠ 0)) || (decide ((↑y17.1.length : Int) ≠ (↑y27.1.length : Int)))) || (decide ((↑y17.2.1.length : Int) ≠ (↑y27.2.length : Int)))) || (decide ((↑y17.1.length : Int) ≠ (↑y17.1.length : Int)))) == false)) (phX v25) (l 54) R27q := d0 rfl
    exact gstep_guard (Gj := true) (Bj := (((decide (y17.2.2 ≠ 0)) || (decide ((↑y17.1.length : Int) ≠ (↑y27.1.length : Int)))) || (decide ((↑y17.2.1.length : Int) ≠ (↑y27.2.length : Int)))) || (decide ((↑y17.1.length : Int) ≠ (↑y17.1.length : Int)))) rfl rfl rfl (gtrue (d1 rfl)) rfl (fun hG hB => ph_val (val_lenR rfl Try.underlying30 (show l 54 = v25 from f54g.1 (gandT rfl hB)) (sl_s ((h26.mono le32).mono hle))))
  · intro l R28q hle ha hd
    obtain ⟨d0, d1, d2, _⟩ := hd
    have f53g : phG (true && (((((decide (y17.2.2 ≠ 0)) || (decide ((↑y17.1.length : Int) ≠ (↑y27.1.length : Int)))) || (decide ((↑y17.2.1.length : Int) ≠ (↑y27.2.length : Int)))) || (decide ((↑y17.1.length : Int) ≠ (↑y17.1.length : Int)))) == false)) (phX (.int .i64 (↑y17.2.1.length : Int))) (l 53) R28q := d0 rfl
    have f55g : phG (true && (((((decide (y17.2.2 ≠ 0)) || (decide ((↑y17.1.length : Int) ≠ (↑y27.1.length : Int)))) || (decide ((↑y17.2.1.length : Int) ≠ (↑y27.2.length : Int)))) || (decide ((↑y17.1.length : Int) ≠ (↑y17.1.length : Int)))) == false)) (phX (.int .i64 (↑y17.2.1.length : Int))) (l 55) R28q := d1 rfl
    exact gstep_guard (Gj := true) (Bj := (((decide (y17.2.2 ≠ 0)) || (decide ((↑y17.1.length : Int) ≠ (↑y27.1.length : Int)))) || (decide ((↑y17.2.1.length : Int) ≠ (↑y27.2.length : Int)))) || (decide ((↑y17.1.length : Int) ≠ (↑y17.1.length : Int)))) rfl rfl rfl (gtrue (d2 rfl)) rfl (fun hG hB => ph_val (val_neq (show l 53 = (.int .i64 (↑y17.2.1.length : Int)) from f53g.1 (gandT rfl hB)) (show l 55 = (.int .i64 (↑y17.2.1.length : Int)) from f55g.1 (gandT rfl hB))))
  · intro l R29q hle ha hd
    obtain ⟨d0, d1, _⟩ := hd
    have f51 : l 51 = (.bool ((((decide (y17.2.2 ≠ 0)) || (decide ((↑y17.1.length : Int) ≠ (↑y27.1.length : Int)))) || (decide ((↑y17.2.1.length : Int) ≠ (↑y27.2.length : Int)))) || (decide ((↑y17.1.length : Int) ≠ (↑y17.1.length : Int))))) := d0 rfl
    have f56g : phG (true && (((((decide (y17.2.2 ≠ 0)) || (decide ((↑y17.1.length : Int) ≠ (↑y27.1.length : Int)))) || (decide ((↑y17.2.1.length : Int) ≠ (↑y27.2.length : Int)))) || (decide ((↑y17.1.length : Int) ≠ (↑y17.1.length : Int)))) == false)) (phX (.bool (decide ((↑y17.2.1.length : Int) ≠ (↑y17.2.1.length : Int))))) (l 56) R29q := d1 rfl
    exact gstep_plain rfl rfl rfl (ph_val (val_or f51 rfl (fun hb => (show l 56 = (.bool (decide ((↑y17.2.1.length : Int) ≠ (↑y17.2.1.length : Int)))) from f56g.1 (gandT rfl hb)))))
  intro v39 h40
  intro v41 h42
  intro v43 h44
  intro v45 h46
  intro v47 h48
  intro v49 h50
  intro v51 h52
  intro v53 h54
  intro v55 h56
  intro v57 h58
  intro v59 h60
  intro v61 h62
  intro v63 h64
  intro v65 h66
  intro v67 h68
  intro v69 h70
  intro v71 h72
  intro v73 h74
  intro v75 h76
  intro v77 h78
  intro v79 h80
  intro v81 h82
  intro v83 h84
  intro v85 h86
  intro v87 h88
  intro v89 h90
  intro v91 h92
  intro v93 h94
  intro v95 h96
  intro v97 h98
  obtain rfl := Eq.symm h40
  obtain rfl := Eq.symm h42
  obtain rfl := Eq.symm h44
  obtain rfl := Eq.symm h56
  obtain rfl := Eq.symm h58
  obtain rfl := Eq.symm h70
  obtain rfl := Eq.symm h72
  obtain rfl := Eq.symm h84
  obtain rfl := Eq.symm h86
  obtain rfl := Eq.symm h98
  refine wo_nil ?_
  refine wg_cond rfl (fun e99 => ?_) (fun e99 => ?_)
  · replace hd0 := sel_t e99 hd0; clear e99
    refine wg_seq ?_
    refine wg_region ?_
    refine wo_v rfl (val_assign (v := (.bool false)) rfl) ?_
    refine wo_nil ?_
    refine wg_ret ?_
    obtain rfl := Option.some.inj hd0
    refine body_end (D := []) (J := [box b13 [(.int .i64 y7.inputs), (.int .i64 y7.outputs), v15] 27]) (rs := [.tmp 2]) (vs := [(.bool false)]) ((((le4.trans le12).trans le22).trans le32).trans le38) rfl rfl ⟨rfl, trivial⟩ ?_
    exact ⟨rfl, rfl⟩
  · replace hd0 := sel_f e99 hd0; clear e99
    refine wg_skip ?_
    refine wg_seq ?_
    refine wg_region ?_
    refine wo_v rfl (val_assign (v := (.slice none 0 0)) rfl) ?_
    refine wo_nil ?_
    replace hd0 := bd_some hd0; obtain ⟨q101, hd1, hd0⟩ := hd0
    refine wg_meet (γ := (List Int) × Value × Frag) true [10, 58, 59, 60, 61, 64, 65, 66, 67, 68, 69, 70, 71, 72, 73, 74, 75, 76, 77, 78, 79, 80, 81, 82, 83, 84, 2, 85, 86, 87, 88, 89, 90, 91, 92, 93, 9, 11, 94, 95, 96, 97, 98, 99, 100, 103, 104, 105, 106, 107, 108, 109, 110, 12, 111, 112, 113, 114, 115, 116, 117, 118, 119, 120, 121, 122, 123, 124, 125, 126, 101, 102, 62, 63] (fun g => [(9, g.2.1)]) (fun g => [box b13 [(.int .i64 y7.inputs), (.int .i64 y7.outputs), v15] 27, g.2.2] ++ A) (fun g R => q101 = Ex.go g.1 ∧ ORep (tInt .i64) R g.2.2 g.2.1 g.1 ∧ True) ?_ ?_
    ·
      refine wg_seq ?_
      refine wg_region ?_
      refine wo_v rfl (val_assign (v := (.int .i64 0)) rfl) ?_
      refine wo_nil ?_
      refine wg_block ?_
      refine wg_emp ?_
      refine wg_loopS (γ := Nat × (List Int) × Int × Value × Frag) true [58, 59, 60, 61, 64, 65, 66, 67, 68, 69, 70, 71, 72, 73, 74, 75, 76, 77, 78, 79, 80, 81, 82, 83, 84, 2, 85, 86, 87, 88, 89, 90, 91, 92, 93, 9, 11, 94, 95, 96, 97, 98, 99, 100, 103, 104, 105, 106, 107, 108, 109, 110, 12, 111, 112, 113, 114, 115, 116, 117, 118, 119, 120, 121, 122, 123, 124, 125, 126, 101, 102, 62, 63, 10] (fun g => [(9, g.2.2.2.1), (10, (.int .i64 g.2.2.1))]) (fun g => [box b13 [(.int .i64 y7.inputs), (.int .i64 y7.outputs), v15] 27, g.2.2.2.2] ++ A) (fun g R => gauntletlaw06_WalksAccess_L1 N y7 y17 y27 g.1 g.2.1 g.2.2.1 = some q101 ∧ ORep (tInt .i64) R g.2.2.2.2 g.2.2.2.1 g.2.1 ∧ True) (fun g => g.1) (N, ([] : List Int), 0, (.slice none 0 0), emp) ⟨rfl, rfl, trivial⟩ ⟨[], (pk 1 rfl (pk 0 rfl (List.Perm.refl _)))⟩ ⟨hd1, (orep_emp (T := (tInt .i64))), trivial⟩ (fun _ => rfl) ?_
      clear hd1
      rintro ⟨F109, x110, x111, v114, f115⟩ j278 D279 R112 hD280 le113 ⟨hd1, h116, _⟩
      obtain rfl := hD280 rfl
      rcases F109 with _ | F109
      · exact none_elim hd1
      replace hd1 : gauntletlaw06_WalksAccess_L1 N y7 y17 y27 (F109 + 1) x110 x111 = some q101 := hd1; rw [gauntletlaw06_WalksAccess_L1] at hd1
      refine wg_seq ?_
      refine wg_seq ?_
      refine wg_region ?_
      refine wo_v rfl (val_move (v := (.int .i64 x111)) rfl) ?_
      refine wo_v rfl (val_move (v := v23) rfl) ?_
      refine wo_v rfl (val_lenR rfl Try.underlying29 rfl (sl_s (h24.mono ((le32.trans le38).trans le113)))) ?_
      refine wo_v rfl (val_lss rfl rfl) ?_
      refine wo_nil ?_
      refine wg_cond rfl (fun e118 => ?_) (fun e118 => ?_)
      · replace hd1 := sel_t e118 hd1; clear e118
        refine wg_skip ?_
        replace hd1 := bd_some hd1; obtain ⟨q120, hd2, hd1⟩ := hd1
        refine wg_meet (γ := (List Int) × Value × Frag) true [64, 65, 66, 67, 68, 69, 70, 71, 72, 73, 74, 75, 76, 77, 78, 79, 80, 81, 82, 83, 84, 2, 85, 86, 87, 88, 89, 90, 91, 92, 93, 9, 11, 94, 95, 96, 97, 98, 99, 100, 103, 104, 105, 106, 107, 108, 109, 110, 12, 111, 112, 113, 114, 115, 116, 117, 118, 119, 120, 121, 122, 123, 124, 125, 126, 101, 102] (fun g => [(9, g.2.1)]) (fun g => [box b13 [(.int .i64 y7.inputs), (.int .i64 y7.outputs), v15] 27, g.2.2] ++ A) (fun g R => q120 = Ex.go g.1 ∧ ORep (tInt .i64) R g.2.2 g.2.1 g.1 ∧ True) ?_ ?_
        ·
          refine wg_block ?_
          refine wg_seq ?_
          refine wg_seq ?_
          have g126 := (gd_some hd2).1; replace hd2 := (gd_some hd2).2
          have g127 := (gd_some hd2).1; replace hd2 := (gd_some hd2).2
          have g128 := (gd_some hd2).1; replace hd2 := (gd_some hd2).2
          have g129 := (gd_some hd2).1; replace hd2 := (gd_some hd2).2
          replace hd2 := bd_some hd2; obtain ⟨y130, c131, hd2⟩ := hd2
          refine wg_drawn 21 [] [phX v25, phX (.int .i64 x111), phP tBool (ix y17.2.1 x111), phX (.bool (ix y17.2.1 x111)), phX v35, phX (.int .i64 x111), phP tBool (ix y27.2 x111), phX (.bool (ix y27.2 x111)), phX (.bool (decide ((ix y17.2.1 x111) ≠ (ix y27.2 x111)))), phX (.bool (decide ((ix y17.2.1 x111) ≠ (ix y27.2 x111)))), phG (true && ((decide ((ix y17.2.1 x111) ≠ (ix y27.2 x111))) == false)) (phX v23), phG (true && ((decide ((ix y17.2.1 x111) ≠ (ix y27.2 x111))) == false)) (phX (.int .i64 x111)), phG (true && ((decide ((ix y17.2.1 x111) ≠ (ix y27.2 x111))) == false)) (phP (tSl true (tInt .i64)) (ix y17.1 x111)), phG (true && ((decide ((ix y17.2.1 x111) ≠ (ix y27.2 x111))) == false)) (phR (tSl true (tInt .i64)) (ix y17.1 x111)), phG (true && ((decide ((ix y17.2.1 x111) ≠ (ix y27.2 x111))) == false)) (phX v33), phG (true && ((decide ((ix y17.2.1 x111) ≠ (ix y27.2 x111))) == false)) (phX (.int .i64 x111)), phG (true && ((decide ((ix y17.2.1 x111) ≠ (ix y27.2 x111))) == false)) (phP (tSl false (tInt .i64)) (ix y27.1 x111)), phG (true && ((decide ((ix y17.2.1 x111) ≠ (ix y27.2 x111))) == false)) (phR (tSl false (tInt .i64)) (ix y27.1 x111)), phG (true && ((decide ((ix y17.2.1 x111) ≠ (ix y27.2 x111))) == false)) (phX (.bool (y130.getD default))), phG (true && ((decide ((ix y17.2.1 x111) ≠ (ix y27.2 x111))) == false)) (phX (.bool (!(y130.getD default)))), phX (.bool ((decide ((ix y17.2.1 x111) ≠ (ix y27.2 x111))) || (!(y130.getD default))))] mixed (by kernel_rfl) (monoOk_of ⟨mono_x, mono_x, mono_p, mono_x, mono_x, mono_x, mono_p, mono_x, mono_x, mono_x, (mono_g mono_x), (mono_g mono_x), (mono_g mono_p), (mono_g mono_r), (mono_g mono_x), (mono_g mono_x), (mono_g mono_p), (mono_g mono_r), (mono_g mono_x), (mono_g mono_x), mono_x, trivial⟩) ⟨?_, ?_, ?_, ?_, ?_, ?_, ?_, ?_, ?_, ?_, ?_, ?_, ?_, ?_, ?_, ?_, ?_, ?_, ?_, ?_, ?_, trivial⟩ fun R132 le133 => ?_
          · intro l R0q hle ha hd
            have a5 : l 5 = v25 := ha 5 rfl
            exact gstep_plain rfl rfl rfl (ph_val (val_move a5))
          · intro l R1q hle ha hd
            have a10 : l 10 = (.int .i64 x111) := ha 10 rfl
            exact gstep_plain rfl rfl rfl (ph_val (val_move a10))
          · intro l R2q hle ha hd
            obtain ⟨d0, d1, _⟩ := hd
            have f64 : l 64 = v25 := d0 rfl
            have f65 : l 65 = (.int .i64 x111) := d1 rfl
            exact gstep_plain rfl rfl rfl (ph_indexR (i := x111.toNat) sl30 f64 (sl_s ((h26.mono ((le32.trans le38).trans le113)).mono hle)) (idx_nonneg f65 g126.1) (okI_lt g126))
          · intro l R3q hle ha hd
            obtain ⟨d0, _⟩ := hd
            have f66 : phP tBool (ix y17.2.1 x111) (l 66) R3q := d0 rfl
            exact gstep_plain rfl rfl rfl (ph_exact (ph_loadR ty4 rfl f66) (fun _ _ h => vrep_bool.1 h))
          · intro l R4q hle ha hd
            have a8 : l 8 = v35 := ha 8 rfl
            exact gstep_plain rfl rfl rfl (ph_val (val_move a8))
          · intro l R5q hle ha hd
            have a10 : l 10 = (.int .i64 x111) := ha 10 rfl
            exact gstep_plain rfl rfl rfl (ph_val (val_move a10))
          · intro l R6q hle ha hd
            obtain ⟨d0, d1, _⟩ := hd
            have f68 : l 68 = v35 := d0 rfl
            have f69 : l 69 = (.int .i64 x111) := d1 rfl
            exact gstep_plain rfl rfl rfl (ph_indexR (i := x111.toNat) sl30 f68 (sl_s ((h36.mono (le38.trans le113)).mono hle)) (idx_nonneg f69 g127.1) (okI_lt g127))
          · intro l R7q hle ha hd
            obtain ⟨d0, _⟩ := hd
            have f70 : phP tBool (ix y27.2 x111) (l 70) R7q := d0 rfl
            exact gstep_plain rfl rfl rfl (ph_exact (ph_loadR ty4 rfl f70) (fun _ _ h => vrep_bool.1 h))
          · intro l R8q hle ha hd
            obtain ⟨d0, d1, _⟩ := hd
            have f67 : l 67 = (.bool (ix y17.2.1 x111)) := d0 rfl
            have f71 : l 71 = (.bool (ix y27.2 x111)) := d1 rfl
            exact gstep_plain rfl rfl rfl (ph_val (val_neqB Try.underlying4 f67 f71))
          · intro l R9q hle ha hd
            obtain ⟨d0, _⟩ := hd
            have f72 : l 72 = (.bool (decide ((ix y17.2.1 x111) ≠ (ix y27.2 x111)))) := d0 rfl
            exact gstep_plain rfl rfl rfl (ph_val (val_move f72))
          · intro l R10q hle ha hd
            obtain ⟨d0, _⟩ := hd
            have a4 : l 4 = v23 := ha 4 rfl
            exact gstep_guard (Gj := true) (Bj := decide ((ix y17.2.1 x111) ≠ (ix y27.2 x111))) rfl rfl rfl (gtrue (d0 rfl)) rfl (fun hG hB => ph_val (val_move a4))
          · intro l R11q hle ha hd
            obtain ⟨d0, _⟩ := hd
            have a10 : l 10 = (.int .i64 x111) := ha 10 rfl
            exact gstep_guard (Gj := true) (Bj := decide ((ix y17.2.1 x111) ≠ (ix y27.2 x111))) rfl rfl rfl (gtrue (d0 rfl)) rfl (fun hG hB => ph_val (val_move a10))
          · intro l R12q hle ha hd
            obtain ⟨d0, d1, d2, _⟩ := hd
            have f74g : phG (true && ((decide ((ix y17.2.1 x111) ≠ (ix y27.2 x111))) == false)) (phX v23) (l 74) R12q := d0 rfl
            have f75g : phG (true && ((decide ((ix y17.2.1 x111) ≠ (ix y27.2 x111))) == false)) (phX (.int .i64 x111)) (l 75) R12q := d1 rfl
            exact gstep_guard (Gj := true) (Bj := decide ((ix y17.2.1 x111) ≠ (ix y27.2 x111))) rfl rfl rfl (gtrue (d2 rfl)) rfl (fun hG hB => ph_indexR (i := x111.toNat) sl29 (show l 74 = v23 from f74g.1 (gandT rfl hB)) (sl_s ((h24.mono ((le32.trans le38).trans le113)).mono hle)) (idx_nonneg (show l 75 = (.int .i64 x111) from f75g.1 (gandT rfl hB)) (g128 (gandT hG hB)).1) (okI_lt (g128 (gandT hG hB))))
          · intro l R13q hle ha hd
            obtain ⟨d0, d1, _⟩ := hd
            have f76g : phG (true && ((decide ((ix y17.2.1 x111) ≠ (ix y27.2 x111))) == false)) (phP (tSl true (tInt .i64)) (ix y17.1 x111)) (l 76) R13q := d0 rfl
            exact gstep_guard (Gj := true) (Bj := decide ((ix y17.2.1 x111) ≠ (ix y27.2 x111))) rfl rfl rfl (gtrue (d1 rfl)) rfl (fun hG hB => ph_loadR ty36 rfl (f76g.1 (gandT rfl hB)))
          · intro l R14q hle ha hd
            obtain ⟨d0, _⟩ := hd
            have a7 : l 7 = v33 := ha 7 rfl
            exact gstep_guard (Gj := true) (Bj := decide ((ix y17.2.1 x111) ≠ (ix y27.2 x111))) rfl rfl rfl (gtrue (d0 rfl)) rfl (fun hG hB => ph_val (val_move a7))
          · intro l R15q hle ha hd
            obtain ⟨d0, _⟩ := hd
            have a10 : l 10 = (.int .i64 x111) := ha 10 rfl
            exact gstep_guard (Gj := true) (Bj := decide ((ix y17.2.1 x111) ≠ (ix y27.2 x111))) rfl rfl rfl (gtrue (d0 rfl)) rfl (fun hG hB => ph_val (val_move a10))
          · intro l R16q hle ha hd
            obtain ⟨d0, d1, d2, _⟩ := hd
            have f78g : phG (true && ((decide ((ix y17.2.1 x111) ≠ (ix y27.2 x111))) == false)) (phX v33) (l 78) R16q := d0 rfl
            have f79g : phG (true && ((decide ((ix y17.2.1 x111) ≠ (ix y27.2 x111))) == false)) (phX (.int .i64 x111)) (l 79) R16q := d1 rfl
            exact gstep_guard (Gj := true) (Bj := decide ((ix y17.2.1 x111) ≠ (ix y27.2 x111))) rfl rfl rfl (gtrue (d2 rfl)) rfl (fun hG hB => ph_indexR (i := x111.toNat) sl29 (show l 78 = v33 from f78g.1 (gandT rfl hB)) (sl_s ((h34.mono (le38.trans le113)).mono hle)) (idx_nonneg (show l 79 = (.int .i64 x111) from f79g.1 (gandT rfl hB)) (g129 (gandT hG hB)).1) (okI_lt (g129 (gandT hG hB))))
          · intro l R17q hle ha hd
            obtain ⟨d0, d1, _⟩ := hd
            have f80g : phG (true && ((decide ((ix y17.2.1 x111) ≠ (ix y27.2 x111))) == false)) (phP (tSl false (tInt .i64)) (ix y27.1 x111)) (l 80) R17q := d0 rfl
            exact gstep_guard (Gj := true) (Bj := decide ((ix y17.2.1 x111) ≠ (ix y27.2 x111))) rfl rfl rfl (gtrue (d1 rfl)) rfl (fun hG hB => ph_loadR ty36 rfl (f80g.1 (gandT rfl hB)))
          · intro l R18q hle ha hd
            obtain ⟨d0, d1, d2, d3, _⟩ := hd
            have f77g : phG (true && ((decide ((ix y17.2.1 x111) ≠ (ix y27.2 x111))) == false)) (phR (tSl true (tInt .i64)) (ix y17.1 x111)) (l 77) R18q := d0 rfl
            have f81g : phG (true && ((decide ((ix y17.2.1 x111) ≠ (ix y27.2 x111))) == false)) (phR (tSl false (tInt .i64)) (ix y27.1 x111)) (l 81) R18q := d1 rfl
            exact gstep_guard (Gj := true) (Bj := decide ((ix y17.2.1 x111) ≠ (ix y27.2 x111))) rfl rfl rfl (gtrue (d2 rfl)) rfl (fun hG hB => ph_callP (vs := [(l 77), (.int .i64 0), (l 81), (.int .i64 0)]) en14 rfl ((by have z := (gop_def c131 (gandT hG hB)); exact c_gauntletlaw06_list (f77g.1 (gandT rfl hB)) (f81g.1 (gandT rfl hB)) z)) (fun _ _ h => h))
          · intro l R19q hle ha hd
            obtain ⟨d0, d1, _⟩ := hd
            have f82g : phG (true && ((decide ((ix y17.2.1 x111) ≠ (ix y27.2 x111))) == false)) (phX (.bool (y130.getD default))) (l 82) R19q := d0 rfl
            exact gstep_guard (Gj := true) (Bj := decide ((ix y17.2.1 x111) ≠ (ix y27.2 x111))) rfl rfl rfl (gtrue (d1 rfl)) rfl (fun hG hB => ph_val (val_not (show l 82 = (.bool (y130.getD default)) from f82g.1 (gandT rfl hB))))
          · intro l R20q hle ha hd
            obtain ⟨d0, d1, _⟩ := hd
            have f73 : l 73 = (.bool (decide ((ix y17.2.1 x111) ≠ (ix y27.2 x111)))) := d0 rfl
            have f83g : phG (true && ((decide ((ix y17.2.1 x111) ≠ (ix y27.2 x111))) == false)) (phX (.bool (!(y130.getD default)))) (l 83) R20q := d1 rfl
            exact gstep_plain rfl rfl rfl (ph_val (val_or f73 rfl (fun hb => (show l 83 = (.bool (!(y130.getD default))) from f83g.1 (gandT rfl hb)))))
          intro v134 h135
          intro v136 h137
          intro v138 h139
          intro v140 h141
          intro v142 h143
          intro v144 h145
          intro v146 h147
          intro v148 h149
          intro v150 h151
          intro v152 h153
          intro v154 h155
          intro v156 h157
          intro v158 h159
          intro v160 h161
          intro v162 h163
          intro v164 h165
          intro v166 h167
          intro v168 h169
          intro v170 h171
          intro v172 h173
          intro v174 h175
          obtain rfl := Eq.symm h135
          obtain rfl := Eq.symm h137
          obtain rfl := Eq.symm h141
          obtain rfl := Eq.symm h143
          obtain rfl := Eq.symm h145
          obtain rfl := Eq.symm h149
          obtain rfl := Eq.symm h151
          obtain rfl := Eq.symm h153
          obtain rfl := Eq.symm h175
          refine wo_nil ?_
          refine wg_cond rfl (fun e176 => ?_) (fun e176 => ?_)
          · replace hd2 := sel_t e176 hd2; clear e176
            refine wg_seq ?_
            refine wg_region ?_
            refine wo_v rfl (val_assign (v := (.bool false)) rfl) ?_
            refine wo_nil ?_
            refine wg_ret ?_
            replace hd1 := on_rt hd2 hd1
            replace hd0 := on_rt hd1 hd0
            obtain rfl := Option.some.inj hd0
            refine body_end (D := []) (J := [box b13 [(.int .i64 y7.inputs), (.int .i64 y7.outputs), v15] 27, f115]) (rs := [.tmp 2]) (vs := [(.bool false)]) ((((((le4.trans le12).trans le22).trans le32).trans le38).trans le113).trans le133) rfl rfl ⟨rfl, trivial⟩ ?_
            exact ⟨rfl, rfl⟩
          · replace hd2 := sel_f e176 hd2; clear e176
            refine wg_skip ?_
            refine wg_seq ?_
            refine wg_seq ?_
            refine wg_region ?_
            refine wo_v rfl (val_move (v := v25) rfl) ?_
            refine wo_v rfl (val_move (v := (.int .i64 x111)) rfl) ?_
            have g177 := (gd_some hd2).1; replace hd2 := (gd_some hd2).2
            refine wo_indexR (i := x111.toNat) rfl sl30 rfl (sl_s (h26.mono (((le32.trans le38).trans le113).trans le133))) (idx_nonneg rfl g177.1) (okI_lt g177) fun v178 h179 => ?_
            refine wo_loadR rfl ty4 rfl h179 fun v180 h181 => ?_
            obtain rfl := vrep_bool.1 h181
            refine wo_v rfl (val_not rfl) ?_
            refine wo_nil ?_
            refine wg_cond rfl (fun e182 => ?_) (fun e182 => ?_)
            · replace hd2 := sel_t e182 hd2; clear e182
              refine wg_exit ?_
              exact ⟨(fun _ => rfl), le133, (by repeat (first | exact off_self | refine off_upd rfl ?_ | refine off_setl rfl ?_ | refine off_mask_sub rfl ?_)), (x110, v114, f115), ⟨rfl, trivial⟩, ⟨[], List.Perm.refl _⟩, (Option.some.inj hd2).symm, (h116.mono le133), trivial⟩
            · replace hd2 := sel_f e182 hd2; clear e182
              refine wg_skip ?_
              refine wg_seq ?_
              refine wg_region ?_
              refine wo_v rfl (val_move (v := v114) rfl) ?_
              refine wo_v rfl (val_move (v := (.int .i64 x111)) rfl) ?_
              refine wo_lit (T := (tInt .i64)) (X := ([x111] : List Int)) (ps := [(0, (.int .i64 x111))]) (css := [[(.int .i64 x111)]]) rfl Try.underlying36 zo3 rfl rfl (lit_reps ⟨rfl, trivial⟩) rfl rfl (by decide) fun v183 f184 cap185 h186 => ?_
              refine wo_freeze (i := 0) rfl h186 fun R188 le189 h190 => ?_
              have h191 : VRep (tSl true (tInt .i64)) R188 v183 ([x111] : List Int) := (sl_t h190 cap185)
              have g192 := (gd_some hd2).1; replace hd2 := (gd_some hd2).2
              refine wo_append (i := 1) (X := x110) (Y := ([x111] : List Int)) rfl Try.underlying36 zo3 rfl rfl rfl (h116.mono (le133.trans le189)) (sl_s (Sub.v (B := (tSl false (tInt .i64))) (sub_sl Sub.refl (fun _ => rfl)) h191)) g192.1 g192.2 fun v193 f194 h195 => ?_
              refine wo_v rfl (val_assign (v := v193) rfl) ?_
              refine wo_nil ?_
              refine wg_seq ?_
              refine wg_region ?_
              refine wo_v rfl (val_assign (v := (.int .i64 0)) rfl) ?_
              refine wo_nil ?_
              refine wg_block ?_
              refine wg_loopS (γ := Nat × Int) true [94, 95, 96, 97, 98, 99, 100, 103, 104, 105, 106, 107, 108, 109, 110, 12, 111, 112, 113, 114, 115, 116, 117, 118, 119, 120, 121, 122, 123, 124, 125, 126, 2, 101, 102, 11] (fun g => [(11, (.int .i64 g.2))]) (fun g => [box b13 [(.int .i64 y7.inputs), (.int .i64 y7.outputs), v15] 27, f194] ++ A) (fun g R => gauntletlaw06_WalksAccess_L2 N y7 y17 x110 x111 g.1 g.2 = some q120 ∧ True) (fun g => g.1) (N, 0) ⟨rfl, trivial⟩ ⟨[], List.Perm.refl _⟩ ⟨hd2, trivial⟩ (fun _ => rfl) ?_
              clear hd2
              rintro ⟨F196, x197⟩ j271 D272 R198 hD273 le199 ⟨hd2, _⟩
              obtain rfl := hD273 rfl
              rcases F196 with _ | F196
              · exact none_elim hd2
              replace hd2 : gauntletlaw06_WalksAccess_L2 N y7 y17 x110 x111 (F196 + 1) x197 = some q120 := hd2; rw [gauntletlaw06_WalksAccess_L2] at hd2
              refine wg_seq ?_
              refine wg_seq ?_
              refine wg_region ?_
              refine wo_v rfl (val_move (v := (.int .i64 x197)) rfl) ?_
              refine wo_v rfl (val_move (v := v23) rfl) ?_
              refine wo_v rfl (val_move (v := (.int .i64 x111)) rfl) ?_
              have g200 := (gd_some hd2).1; replace hd2 := (gd_some hd2).2
              refine wo_indexR (i := x111.toNat) rfl sl29 rfl (sl_s (h24.mono (((((le32.trans le38).trans le113).trans le133).trans le189).trans le199))) (idx_nonneg rfl g200.1) (okI_lt g200) fun v201 h202 => ?_
              refine wo_loadR rfl ty36 rfl h202 fun v203 h204 => ?_
              refine wo_v rfl (val_lenR rfl Try.underlying36 rfl (sl_s h204)) ?_
              refine wo_v rfl (val_lss rfl rfl) ?_
              refine wo_nil ?_
              refine wg_cond rfl (fun e205 => ?_) (fun e205 => ?_)
              · replace hd2 := sel_t e205 hd2; clear e205
                refine wg_skip ?_
                refine wg_seq ?_
                refine wg_block ?_
                refine wg_seq ?_
                have g206 := (gd_some hd2).1; replace hd2 := (gd_some hd2).2
                have g207 := (gd_some hd2).1; replace hd2 := (gd_some hd2).2
                replace hd2 := bd_some hd2; obtain ⟨y208, c209, hd2⟩ := hd2
                refine wg_drawn 9 [] [phX (.agg #[(.int .i64 y7.inputs), (.int .i64 y7.outputs), v15]), phX v23, phX (.int .i64 x111), phP (tSl true (tInt .i64)) (ix y17.1 x111), phR (tSl true (tInt .i64)) (ix y17.1 x111), phX (.int .i64 x197), phR (tSl false (tInt .i64)) (cut (ix y17.1 x111) 0 x197), phX (.int .i64 y208), phX (.int .i64 y208)] mixed (by kernel_rfl) (monoOk_of ⟨mono_x, mono_x, mono_x, mono_p, mono_r, mono_x, mono_r, mono_x, mono_x, trivial⟩) ⟨?_, ?_, ?_, ?_, ?_, ?_, ?_, ?_, ?_, trivial⟩ fun R210 le211 => ?_
                · intro l R0q hle ha hd
                  have a3 : l 3 = (.pointer (some ⟨b13, 0, none⟩)) := ha 3 rfl
                  exact gstep_plain rfl rfl rfl (ph_val (val_loadBA (i := 0) ag27 sz27 a3 rfl rfl rfl))
                · intro l R1q hle ha hd
                  have a4 : l 4 = v23 := ha 4 rfl
                  exact gstep_plain rfl rfl rfl (ph_val (val_move a4))
                · intro l R2q hle ha hd
                  have a10 : l 10 = (.int .i64 x111) := ha 10 rfl
                  exact gstep_plain rfl rfl rfl (ph_val (val_move a10))
                · intro l R3q hle ha hd
                  obtain ⟨d0, d1, _⟩ := hd
                  have f104 : l 104 = v23 := d0 rfl
                  have f105 : l 105 = (.int .i64 x111) := d1 rfl
                  exact gstep_plain rfl rfl rfl (ph_indexR (i := x111.toNat) sl29 f104 (sl_s ((h24.mono (((((le32.trans le38).trans le113).trans le133).trans le189).trans le199)).mono hle)) (idx_nonneg f105 g206.1) (okI_lt g206))
                · intro l R4q hle ha hd
                  obtain ⟨d0, _⟩ := hd
                  have f106 : phP (tSl true (tInt .i64)) (ix y17.1 x111) (l 106) R4q := d0 rfl
                  exact gstep_plain rfl rfl rfl (ph_loadR ty36 rfl f106)
                · intro l R5q hle ha hd
                  have a11 : l 11 = (.int .i64 x197) := ha 11 rfl
                  exact gstep_plain rfl rfl rfl (ph_val (val_move a11))
                · intro l R6q hle ha hd
                  obtain ⟨d0, d1, _⟩ := hd
                  have f107 : phR (tSl true (tInt .i64)) (ix y17.1 x111) (l 107) R6q := d0 rfl
                  have f108 : l 108 = (.int .i64 x197) := d1 rfl
                  exact gstep_plain rfl rfl rfl (ph_sliceF (lo := (0 : Int).toNat) (hi := x197.toNat) (mx := (capOf (l 107))) (X' := (cut (ix y17.1 x111) 0 x197)) sl36 rfl (sl_s f107) (.inl ⟨rfl, rfl⟩) (.inr ⟨_, congrArg some (idx_nonneg f108 (okS_0 g207))⟩) (.inl ⟨rfl, rfl⟩) (okS_1 g207) (okS_2 g207) (fun h => Nat.le_trans (okS_2 g207) h) (fun _ => Nat.le_refl _) rfl)
                · intro l R7q hle ha hd
                  obtain ⟨d0, d1, _⟩ := hd
                  have f103 : l 103 = (.agg #[(.int .i64 y7.inputs), (.int .i64 y7.outputs), v15]) := d0 rfl
                  have f109 : phR (tSl false (tInt .i64)) (cut (ix y17.1 x111) 0 x197) (l 109) R7q := d1 rfl
                  exact gstep_plain rfl rfl rfl (ph_callP (vs := [(.agg #[(.int .i64 y7.inputs), (.int .i64 y7.outputs), v15]), (.int .i64 0), (l 109)]) en15 (by simp only [List.map, ev, f103] <;> rfl) (c_gauntletref04_After (⟨_, ⟨_, _, rfl, rfl, ⟨_, _, rfl, rfl, (rep_one rfl ((h16.mono ((((((le22.trans le32).trans le38).trans le113).trans le133).trans le189).trans le199)).mono hle))⟩⟩, rfl⟩ : VRep (kMach false false) _ _ (⟨y7.inputs, y7.outputs, y7.rows⟩ : Mach)) f109 c209) (fun _ _ h => h))
                · intro l R8q hle ha hd
                  obtain ⟨d0, d1, d2, d3, d4, d5, d6, d7, d8, d9, _⟩ := hd
                  have f110 : l 110 = (.int .i64 y208) := d0 rfl
                  exact gstep_plain rfl rfl rfl (ph_val (val_assign f110))
                intro v212 h213
                intro v214 h215
                intro v216 h217
                intro v218 h219
                intro v220 h221
                intro v222 h223
                intro v224 h225
                intro v226 h227
                intro v228 h229
                obtain rfl := Eq.symm h213
                obtain rfl := Eq.symm h215
                obtain rfl := Eq.symm h217
                obtain rfl := Eq.symm h223
                obtain rfl := Eq.symm h227
                obtain rfl := Eq.symm h229
                refine wo_nil ?_
                refine wg_seq ?_
                have g230 := (gd_some hd2).1; replace hd2 := (gd_some hd2).2
                have g231 := (gd_some hd2).1; replace hd2 := (gd_some hd2).2
                have g232 := (gd_some hd2).1; replace hd2 := (gd_some hd2).2
                replace hd2 := bd_some hd2; obtain ⟨y233, c234, hd2⟩ := hd2
                refine wg_drawn 16 [] [phX (.int .i64 y208), phX (.bool (decide (y208 < 0))), phX (.bool (decide (y208 < 0))), phG (true && ((decide (y208 < 0)) == false)) (phX v23), phG (true && ((decide (y208 < 0)) == false)) (phX (.int .i64 y208)), phG (true && ((decide (y208 < 0)) == false)) (phP (tSl true (tInt .i64)) (ix y17.1 y208)), phG (true && ((decide (y208 < 0)) == false)) (phR (tSl true (tInt .i64)) (ix y17.1 y208)), phG (true && ((decide (y208 < 0)) == false)) (phX v23), phG (true && ((decide (y208 < 0)) == false)) (phX (.int .i64 x111)), phG (true && ((decide (y208 < 0)) == false)) (phP (tSl true (tInt .i64)) (ix y17.1 x111)), phG (true && ((decide (y208 < 0)) == false)) (phR (tSl true (tInt .i64)) (ix y17.1 x111)), phG (true && ((decide (y208 < 0)) == false)) (phX (.int .i64 x197)), phG (true && ((decide (y208 < 0)) == false)) (phR (tSl false (tInt .i64)) (cut (ix y17.1 x111) 0 x197)), phG (true && ((decide (y208 < 0)) == false)) (phX (.bool (y233.getD default))), phG (true && ((decide (y208 < 0)) == false)) (phX (.bool (!(y233.getD default)))), phX (.bool ((decide (y208 < 0)) || (!(y233.getD default))))] mixed (by kernel_rfl) (monoOk_of ⟨mono_x, mono_x, mono_x, (mono_g mono_x), (mono_g mono_x), (mono_g mono_p), (mono_g mono_r), (mono_g mono_x), (mono_g mono_x), (mono_g mono_p), (mono_g mono_r), (mono_g mono_x), (mono_g mono_r), (mono_g mono_x), (mono_g mono_x), mono_x, trivial⟩) ⟨?_, ?_, ?_, ?_, ?_, ?_, ?_, ?_, ?_, ?_, ?_, ?_, ?_, ?_, ?_, ?_, trivial⟩ fun R235 le236 => ?_
                · intro l R0q hle ha hd
                  have a12 : l 12 = (.int .i64 y208) := ha 12 rfl
                  exact gstep_plain rfl rfl rfl (ph_val (val_move a12))
                · intro l R1q hle ha hd
                  obtain ⟨d0, _⟩ := hd
                  have f111 : l 111 = (.int .i64 y208) := d0 rfl
                  exact gstep_plain rfl rfl rfl (ph_val (val_lss f111 rfl))
                · intro l R2q hle ha hd
                  obtain ⟨d0, _⟩ := hd
                  have f112 : l 112 = (.bool (decide (y208 < 0))) := d0 rfl
                  exact gstep_plain rfl rfl rfl (ph_val (val_move f112))
                · intro l R3q hle ha hd
                  obtain ⟨d0, _⟩ := hd
                  have a4 : l 4 = v23 := ha 4 rfl
                  exact gstep_guard (Gj := true) (Bj := decide (y208 < 0)) rfl rfl rfl (gtrue (d0 rfl)) rfl (fun hG hB => ph_val (val_move a4))
                · intro l R4q hle ha hd
                  obtain ⟨d0, _⟩ := hd
                  have a12 : l 12 = (.int .i64 y208) := ha 12 rfl
                  exact gstep_guard (Gj := true) (Bj := decide (y208 < 0)) rfl rfl rfl (gtrue (d0 rfl)) rfl (fun hG hB => ph_val (val_move a12))
                · intro l R5q hle ha hd
                  obtain ⟨d0, d1, d2, _⟩ := hd
                  have f114g : phG (true && ((decide (y208 < 0)) == false)) (phX v23) (l 114) R5q := d0 rfl
                  have f115g : phG (true && ((decide (y208 < 0)) == false)) (phX (.int .i64 y208)) (l 115) R5q := d1 rfl
                  exact gstep_guard (Gj := true) (Bj := decide (y208 < 0)) rfl rfl rfl (gtrue (d2 rfl)) rfl (fun hG hB => ph_indexR (i := y208.toNat) sl29 (show l 114 = v23 from f114g.1 (gandT rfl hB)) (sl_s ((h24.mono ((((((le32.trans le38).trans le113).trans le133).trans le189).trans le199).trans le211)).mono hle)) (idx_nonneg (show l 115 = (.int .i64 y208) from f115g.1 (gandT rfl hB)) (g230 (gandT hG hB)).1) (okI_lt (g230 (gandT hG hB))))
                · intro l R6q hle ha hd
                  obtain ⟨d0, d1, _⟩ := hd
                  have f116g : phG (true && ((decide (y208 < 0)) == false)) (phP (tSl true (tInt .i64)) (ix y17.1 y208)) (l 116) R6q := d0 rfl
                  exact gstep_guard (Gj := true) (Bj := decide (y208 < 0)) rfl rfl rfl (gtrue (d1 rfl)) rfl (fun hG hB => ph_loadR ty36 rfl (f116g.1 (gandT rfl hB)))
                · intro l R7q hle ha hd
                  obtain ⟨d0, _⟩ := hd
                  have a4 : l 4 = v23 := ha 4 rfl
                  exact gstep_guard (Gj := true) (Bj := decide (y208 < 0)) rfl rfl rfl (gtrue (d0 rfl)) rfl (fun hG hB => ph_val (val_move a4))
                · intro l R8q hle ha hd
                  obtain ⟨d0, _⟩ := hd
                  have a10 : l 10 = (.int .i64 x111) := ha 10 rfl
                  exact gstep_guard (Gj := true) (Bj := decide (y208 < 0)) rfl rfl rfl (gtrue (d0 rfl)) rfl (fun hG hB => ph_val (val_move a10))
                · intro l R9q hle ha hd
                  obtain ⟨d0, d1, d2, _⟩ := hd
                  have f118g : phG (true && ((decide (y208 < 0)) == false)) (phX v23) (l 118) R9q := d0 rfl
                  have f119g : phG (true && ((decide (y208 < 0)) == false)) (phX (.int .i64 x111)) (l 119) R9q := d1 rfl
                  exact gstep_guard (Gj := true) (Bj := decide (y208 < 0)) rfl rfl rfl (gtrue (d2 rfl)) rfl (fun hG hB => ph_indexR (i := x111.toNat) sl29 (show l 118 = v23 from f118g.1 (gandT rfl hB)) (sl_s ((h24.mono ((((((le32.trans le38).trans le113).trans le133).trans le189).trans le199).trans le211)).mono hle)) (idx_nonneg (show l 119 = (.int .i64 x111) from f119g.1 (gandT rfl hB)) (g231 (gandT hG hB)).1) (okI_lt (g231 (gandT hG hB))))
                · intro l R10q hle ha hd
                  obtain ⟨d0, d1, _⟩ := hd
                  have f120g : phG (true && ((decide (y208 < 0)) == false)) (phP (tSl true (tInt .i64)) (ix y17.1 x111)) (l 120) R10q := d0 rfl
                  exact gstep_guard (Gj := true) (Bj := decide (y208 < 0)) rfl rfl rfl (gtrue (d1 rfl)) rfl (fun hG hB => ph_loadR ty36 rfl (f120g.1 (gandT rfl hB)))
                · intro l R11q hle ha hd
                  obtain ⟨d0, _⟩ := hd
                  have a11 : l 11 = (.int .i64 x197) := ha 11 rfl
                  exact gstep_guard (Gj := true) (Bj := decide (y208 < 0)) rfl rfl rfl (gtrue (d0 rfl)) rfl (fun hG hB => ph_val (val_move a11))
                · intro l R12q hle ha hd
                  obtain ⟨d0, d1, d2, _⟩ := hd
                  have f121g : phG (true && ((decide (y208 < 0)) == false)) (phR (tSl true (tInt .i64)) (ix y17.1 x111)) (l 121) R12q := d0 rfl
                  have f122g : phG (true && ((decide (y208 < 0)) == false)) (phX (.int .i64 x197)) (l 122) R12q := d1 rfl
                  exact gstep_guard (Gj := true) (Bj := decide (y208 < 0)) rfl rfl rfl (gtrue (d2 rfl)) rfl (fun hG hB => ph_sliceF (lo := (0 : Int).toNat) (hi := x197.toNat) (mx := (capOf (l 121))) (X' := (cut (ix y17.1 x111) 0 x197)) sl36 rfl (sl_s (f121g.1 (gandT rfl hB))) (.inl ⟨rfl, rfl⟩) (.inr ⟨_, congrArg some (idx_nonneg (show l 122 = (.int .i64 x197) from f122g.1 (gandT rfl hB)) (okS_0 (g232 (gandT hG hB))))⟩) (.inl ⟨rfl, rfl⟩) (okS_1 (g232 (gandT hG hB))) (okS_2 (g232 (gandT hG hB))) (fun h => Nat.le_trans (okS_2 (g232 (gandT hG hB))) h) (fun _ => Nat.le_refl _) rfl)
                · intro l R13q hle ha hd
                  obtain ⟨d0, d1, d2, d3, _⟩ := hd
                  have f117g : phG (true && ((decide (y208 < 0)) == false)) (phR (tSl true (tInt .i64)) (ix y17.1 y208)) (l 117) R13q := d0 rfl
                  have f123g : phG (true && ((decide (y208 < 0)) == false)) (phR (tSl false (tInt .i64)) (cut (ix y17.1 x111) 0 x197)) (l 123) R13q := d1 rfl
                  exact gstep_guard (Gj := true) (Bj := decide (y208 < 0)) rfl rfl rfl (gtrue (d2 rfl)) rfl (fun hG hB => ph_callP (vs := [(l 117), (l 123)]) en16 rfl ((by have z := (gop_def c234 (gandT hG hB)); exact c_gauntletref01_Same (Sub.v (B := (tSl false (tInt .i64))) (sub_sl Sub.refl (fun _ => rfl)) (f117g.1 (gandT rfl hB))) (f123g.1 (gandT rfl hB)) z)) (fun _ _ h => h))
                · intro l R14q hle ha hd
                  obtain ⟨d0, d1, _⟩ := hd
                  have f124g : phG (true && ((decide (y208 < 0)) == false)) (phX (.bool (y233.getD default))) (l 124) R14q := d0 rfl
                  exact gstep_guard (Gj := true) (Bj := decide (y208 < 0)) rfl rfl rfl (gtrue (d1 rfl)) rfl (fun hG hB => ph_val (val_not (show l 124 = (.bool (y233.getD default)) from f124g.1 (gandT rfl hB))))
                · intro l R15q hle ha hd
                  obtain ⟨d0, d1, _⟩ := hd
                  have f113 : l 113 = (.bool (decide (y208 < 0))) := d0 rfl
                  have f125g : phG (true && ((decide (y208 < 0)) == false)) (phX (.bool (!(y233.getD default)))) (l 125) R15q := d1 rfl
                  exact gstep_plain rfl rfl rfl (ph_val (val_or f113 rfl (fun hb => (show l 125 = (.bool (!(y233.getD default))) from f125g.1 (gandT rfl hb)))))
                intro v237 h238
                intro v239 h240
                intro v241 h242
                intro v243 h244
                intro v245 h246
                intro v247 h248
                intro v249 h250
                intro v251 h252
                intro v253 h254
                intro v255 h256
                intro v257 h258
                intro v259 h260
                intro v261 h262
                intro v263 h264
                intro v265 h266
                intro v267 h268
                obtain rfl := Eq.symm h238
                obtain rfl := Eq.symm h240
                obtain rfl := Eq.symm h242
                obtain rfl := Eq.symm h268
                refine wo_nil ?_
                refine wg_cond rfl (fun e269 => ?_) (fun e269 => ?_)
                · replace hd2 := sel_t e269 hd2; clear e269
                  refine wg_seq ?_
                  refine wg_region ?_
                  refine wo_v rfl (val_assign (v := (.bool false)) rfl) ?_
                  refine wo_nil ?_
                  refine wg_ret ?_
                  replace hd1 := on_rt hd2 hd1
                  replace hd0 := on_rt hd1 hd0
                  obtain rfl := Option.some.inj hd0
                  refine body_end (D := []) (J := [box b13 [(.int .i64 y7.inputs), (.int .i64 y7.outputs), v15] 27, f194]) (rs := [.tmp 2]) (vs := [(.bool false)]) ((((((((((le4.trans le12).trans le22).trans le32).trans le38).trans le113).trans le133).trans le189).trans le199).trans le211).trans le236) rfl rfl ⟨rfl, trivial⟩ ?_
                  exact ⟨rfl, rfl⟩
                · replace hd2 := sel_f e269 hd2; clear e269
                  refine wg_skip ?_
                  refine wg_region ?_
                  refine wo_v rfl (val_move (v := (.int .i64 x197)) rfl) ?_
                  have g270 := (gd_some hd2).1; replace hd2 := (gd_some hd2).2
                  refine wo_v rfl (val_add rfl rfl g270) ?_
                  refine wo_v rfl (val_assign (v := (.int .i64 (x197 + 1))) rfl) ?_
                  refine wo_nil ?_
                  exact ⟨(fun _ => rfl), (le211.trans le236), (by repeat (first | exact off_self | refine off_upd rfl ?_ | refine off_setl rfl ?_ | refine off_mask_sub rfl ?_)), (F196, x197 + 1), Nat.lt_succ_self _, ⟨rfl, trivial⟩, ⟨[], List.Perm.refl _⟩, hd2, trivial⟩
              · replace hd2 := sel_f e205 hd2; clear e205
                refine wg_exit ?_
                exact ⟨(fun _ => rfl), ((le133.trans le189).trans le199), (by repeat (first | exact off_self | refine off_upd rfl ?_ | refine off_setl rfl ?_ | refine off_mask_sub rfl ?_)), ((x110 ++ ([x111] : List Int)), v193, f194), ⟨rfl, trivial⟩, ⟨[], List.Perm.refl _⟩, (Option.some.inj hd2).symm, (h195.mono le199), trivial⟩
        ·
          rintro ⟨o119, v123, f124⟩ j274 D275 R121 hD276 le122 ⟨rfl, h125, _⟩
          obtain rfl := hD276 rfl
          replace hd1 := on_go hd1
          refine wg_region ?_
          refine wo_v rfl (val_move (v := (.int .i64 x111)) rfl) ?_
          have g277 := (gd_some hd1).1; replace hd1 := (gd_some hd1).2
          refine wo_v rfl (val_add rfl rfl g277) ?_
          refine wo_v rfl (val_assign (v := (.int .i64 (x111 + 1))) rfl) ?_
          refine wo_nil ?_
          exact ⟨(fun _ => rfl), le122, (by repeat (first | exact off_self | refine off_upd rfl ?_ | refine off_setl rfl ?_ | refine off_mask_sub rfl ?_)), (F109, o119, x111 + 1, v123, f124), Nat.lt_succ_self _, ⟨rfl, rfl, trivial⟩, ⟨[], List.Perm.refl _⟩, hd1, h125, trivial⟩
      · replace hd1 := sel_f e118 hd1; clear e118
        refine wg_exit ?_
        exact ⟨(fun _ => rfl), le113, (by repeat (first | exact off_self | refine off_upd rfl ?_ | refine off_setl rfl ?_ | refine off_mask_sub rfl ?_)), (x110, v114, f115), ⟨rfl, trivial⟩, ⟨[], List.Perm.refl _⟩, (Option.some.inj hd1).symm, h116, trivial⟩
    ·
      rintro ⟨o100, v104, f105⟩ j281 D282 R102 hD283 le103 ⟨rfl, h106, _⟩
      obtain rfl := hD283 rfl
      replace hd0 := on_go hd0
      refine wg_seq ?_
      refine wg_region ?_
      refine wo_v rfl (val_loadBA (i := 0) ag27 sz27 rfl rfl rfl rfl) ?_
      replace hd0 := bd_some hd0; obtain ⟨y284, c285, hd0⟩ := hd0
      refine wo_callP rfl en17 rfl (c_walks_Reach (⟨_, ⟨_, _, rfl, rfl, ⟨_, _, rfl, rfl, (rep_one rfl (h16.mono (((le22.trans le32).trans le38).trans le103)))⟩⟩, rfl⟩ : VRep (kMach false false) _ _ (⟨y7.inputs, y7.outputs, y7.rows⟩ : Mach)) c285) fun v286 R288 le289 h287 => ?_
      obtain ⟨v290, rfl, h291⟩ := h287
      refine wo_v rfl (val_move (v := (.tuple #[v290, (.int .i64 y284.2)])) rfl) ?_
      refine wo_v rfl (val_extract rfl rfl) ?_
      refine wo_v rfl (val_extract rfl rfl) ?_
      refine wo_v rfl (val_assign (v := v290) rfl) ?_
      refine wo_v rfl (val_assign (v := (.int .i64 y284.2)) rfl) ?_
      refine wo_nil ?_
      refine wg_seq ?_
      replace hd0 := bd_some hd0; obtain ⟨y292, c293, hd0⟩ := hd0
      replace hd0 := bd_some hd0; obtain ⟨y294, c295, hd0⟩ := hd0
      refine wg_guarded 8 [] [phX v290, phX (.int .i64 y284.2), phX v104, phX (.bool y292), phX (.bool y292), phG (true && (y292 == true)) (phX (.bool (y294.getD default))), phX (.bool (y292 && (y294.getD default))), phX (.bool (y292 && (y294.getD default)))] (by kernel_rfl) (by kernel_rfl) (monoOk_of ⟨mono_x, mono_x, mono_x, mono_x, mono_x, (mono_g mono_x), mono_x, mono_x, trivial⟩) ⟨?_, ?_, ?_, ?_, ?_, ?_, ?_, ?_, trivial⟩ fun R296 le297 => ?_
      · intro l R0q hle ha hd
        have a13 : l 13 = v290 := ha 13 rfl
        exact gstep_plain rfl rfl rfl (ph_val (val_move a13))
      · intro l R1q hle ha hd
        have a14 : l 14 = (.int .i64 y284.2) := ha 14 rfl
        exact gstep_plain rfl rfl rfl (ph_val (val_move a14))
      · intro l R2q hle ha hd
        have a9 : l 9 = v104 := ha 9 rfl
        exact gstep_plain rfl rfl rfl (ph_val (val_move a9))
      · intro l R3q hle ha hd
        obtain ⟨d0, d1, d2, _⟩ := hd
        have f132 : l 132 = v290 := d0 rfl
        have f133 : l 133 = (.int .i64 y284.2) := d1 rfl
        have f134 : l 134 = v104 := d2 rfl
        exact gstep_plain rfl rfl rfl (ph_lend (cs := []) (vs := [v290, (.int .i64 y284.2), v104, (.int .i64 0)]) (φ := fun v => v = (.bool y292)) en14 rfl (by simp only [List.map, ev, f132, f133, f134] <;> rfl) (fun R1q l1q llq => c_gauntletlaw06_list ((h291.mono hle).mono l1q) (sl_f ((lent_o 1 rfl ((h106.mono le289).mono hle) l1q llq) : VRep (tSlice (tInt .i64)) R1q v104 o100)) c293))
      · intro l R4q hle ha hd
        obtain ⟨d0, d1, _⟩ := hd
        have f135 : l 135 = (.bool y292) := d0 rfl
        exact gstep_plain rfl rfl rfl (ph_val (val_move f135))
      · intro l R5q hle ha hd
        obtain ⟨d0, d1, _⟩ := hd
        exact gstep_guard (Gj := true) (Bj := y292) rfl rfl rfl (gtrue (d0 rfl)) rfl (fun hG hB => ph_callP (vs := []) en18 rfl ((by have z := (gop_def c295 (gandT hG hB)); exact c_gauntletlaw06_lives  z)) (fun _ _ h => h))
      · intro l R6q hle ha hd
        obtain ⟨d0, d1, _⟩ := hd
        have f136 : l 136 = (.bool y292) := d0 rfl
        have f137g : phG (true && (y292 == true)) (phX (.bool (y294.getD default))) (l 137) R6q := d1 rfl
        exact gstep_plain rfl rfl rfl (ph_val (val_and f136 (fun hb => (show l 137 = (.bool (y294.getD default)) from f137g.1 (gandT rfl hb))) rfl))
      · intro l R7q hle ha hd
        obtain ⟨d0, d1, d2, d3, d4, d5, d6, d7, d8, _⟩ := hd
        have f138 : l 138 = (.bool (y292 && (y294.getD default))) := d0 rfl
        exact gstep_plain rfl rfl rfl (ph_val (val_assign f138))
      intro v298 h299
      intro v300 h301
      intro v302 h303
      intro v304 h305
      intro v306 h307
      intro v308 h309
      intro v310 h311
      intro v312 h313
      obtain rfl := Eq.symm h299
      obtain rfl := Eq.symm h301
      obtain rfl := Eq.symm h303
      obtain rfl := Eq.symm h305
      obtain rfl := Eq.symm h307
      obtain rfl := Eq.symm h311
      obtain rfl := Eq.symm h313
      refine wo_nil ?_
      refine wg_ret ?_
      obtain rfl := Option.some.inj hd0
      refine body_end (D := []) (J := [box b13 [(.int .i64 y7.inputs), (.int .i64 y7.outputs), v15] 27, f105]) (rs := [.tmp 2]) (vs := [(.bool (y292 && (y294.getD default)))]) (((((((le4.trans le12).trans le22).trans le32).trans le38).trans le103).trans le289).trans le297) rfl rfl ⟨rfl, trivial⟩ ?_
      exact ⟨rfl, rfl⟩
end GV
end Go.Proofs.Ytncblcdhmcmkmaa
