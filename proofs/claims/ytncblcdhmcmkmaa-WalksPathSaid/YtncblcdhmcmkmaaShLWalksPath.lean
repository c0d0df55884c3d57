/- The walks of the functions; printed. -/
import Derived.Test.YtncblcdhmcmkmaaShWe
import Derived.Test.YtncblcdhmcmkmaaShXa
import Derived.Test.YtncblcdhmcmkmaaShXb
import Derived.Test.YtncblcdhmcmkmaaRows
namespace Go.Proofs.Ytncblcdhmcmkmaa
namespace GV
open Go.IntWalk
set_option linter.unusedVariables false
set_option linter.unusedSimpArgs false
set_option maxRecDepth 100000
set_option maxHeartbeats 20000000
theorem c_gauntletlaw06_WalksPath {N : Nat} {R : RH} {x : MDat} {v_x : Value} (h_x : VRep (kMDat false) R v_x x) {from_ : Int} {to_ : Int} {r : Bool} (hd0 : gauntletlaw06_WalksPath N x from_ to_ = some r) : CallP Try.prog 4 #[v_x, (.int .u8 from_), (.int .u8 to_)] R (fun v R' => v = (.bool r)) := by
  refine callP_of_wg (args := [v_x, (.int .u8 from_), (.int .u8 to_)]) Try.func4 rfl rfl fun A => ?_
  rw [gauntletlaw06_WalksPath] at hd0
  refine wg_seq ?_
  refine wg_region ?_
  refine wo_boxR (T := (kMDat false)) rfl rfl h_x fun v1 R3 le4 h2 => ?_
  refine wo_v rfl (val_assign (v := (.bool false)) rfl) ?_
  refine wo_nil ?_
  refine wg_seq ?_
  refine wg_region ?_
  refine wo_loadR rfl ty24 rfl h2 fun v5 h6 => ?_
  replace hd0 := bd_some hd0; obtain ⟨y7, c8, hd0⟩ := hd0
  refine wo_callP rfl en11 rfl (c_gauntletlaw04_M_Of h6 c8) fun v9 R11 le12 h10 => ?_
  refine wo_alloc rfl za27 fun b13 => ?_
  obtain ⟨v15, rfl, h16⟩ := cases_Mach h10
  refine wo_store (i := 0) (vs := [(.int .i64 y7.inputs), (.int .i64 y7.outputs), v15]) sz27 rfl rfl rfl rfl rfl rfl (one_cons rfl (one_cons rfl (one_cons (sl_one h16) one_nil))) ?_
  refine wo_nil ?_
  refine wg_seq ?_
  have g17 := (gd_some hd0).1; replace hd0 := (gd_some hd0).2
  have g18 := (gd_some hd0).1; replace hd0 := (gd_some hd0).2
  have g19 := (gd_some hd0).1; replace hd0 := (gd_some hd0).2
  have g20 := (gd_some hd0).1; replace hd0 := (gd_some hd0).2
  refine wg_drawn 14 [] [phX (.int .u8 from_), phX (.int .i64 from_), phX (.pointer (some ⟨b13, 2, none⟩)), phX v15, phX (.int .i64 (↑y7.rows.length : Int)), phX (.int .i64 (from_ % (↑y7.rows.length : Int))), phX (.int .u8 to_), phX (.int .i64 to_), phX (.pointer (some ⟨b13, 2, none⟩)), phX v15, phX (.int .i64 (↑y7.rows.length : Int)), phX (.int .i64 (to_ % (↑y7.rows.length : Int))), phX (.int .i64 (from_ % (↑y7.rows.length : Int))), phX (.int .i64 (to_ % (↑y7.rows.length : Int)))] mixed (by kernel_rfl) (monoOk_of ⟨mono_x, mono_x, mono_x, mono_x, mono_x, mono_x, mono_x, mono_x, mono_x, mono_x, mono_x, mono_x, mono_x, mono_x, trivial⟩) ⟨?_, ?_, ?_, ?_, ?_, ?_, ?_, ?_, ?_, ?_, ?_, ?_, ?_, ?_, trivial⟩ fun R21 le22 => ?_
  · intro l R0q hle ha hd
    have a1 : l 1 = (.int .u8 from_) := ha 1 rfl
    exact gstep_plain rfl rfl rfl (ph_val (val_move a1))
  · intro l R1q hle ha hd
    obtain ⟨d0, _⟩ := hd
    have f23 : l 23 = (.int .u8 from_) := d0 rfl
    exact gstep_plain rfl rfl rfl (ph_val (val_conv64 Try.underlying5 Try.underlying3 f23 g17))
  · intro l R2q hle ha hd
    have a7 : l 7 = (.pointer (some ⟨b13, 0, none⟩)) := ha 7 rfl
    exact gstep_plain rfl rfl rfl (ph_val (val_fieldB fd27_2 a7))
  · intro l R3q hle ha hd
    obtain ⟨d0, _⟩ := hd
    have f25 : l 25 = (.pointer (some ⟨b13, 2, none⟩)) := d0 rfl
    exact gstep_plain rfl rfl rfl (ph_val (val_loadB (i := 0) ag25 f25 rfl rfl))
  · intro l R4q hle ha hd
    obtain ⟨d0, _⟩ := hd
    have f26 : l 26 = v15 := d0 rfl
    exact gstep_plain rfl rfl rfl (ph_val (val_lenR rfl Try.underlying25 f26 (sl_s (h16.mono hle))))
  · intro l R5q hle ha hd
    obtain ⟨d0, d1, _⟩ := hd
    have f24 : l 24 = (.int .i64 from_) := d0 rfl
    have f27 : l 27 = (.int .i64 (↑y7.rows.length : Int)) := d1 rfl
    exact gstep_plain rfl rfl rfl (ph_val (val_rem0 f24 f27 g18))
  · intro l R6q hle ha hd
    obtain ⟨d0, _⟩ := hd
    have a2 : l 2 = (.int .u8 to_) := ha 2 rfl
    exact gstep_plain rfl rfl rfl (ph_val (val_move a2))
  · intro l R7q hle ha hd
    obtain ⟨d0, d1, _⟩ := hd
    have f29 : l 29 = (.int .u8 to_) := d0 rfl
    exact gstep_plain rfl rfl rfl (ph_val (val_conv64 Try.underlying5 Try.underlying3 f29 g19))
  · intro l R8q hle ha hd
    have a7 : l 7 = (.pointer (some ⟨b13, 0, none⟩)) := ha 7 rfl
    exact gstep_plain rfl rfl rfl (ph_val (val_fieldB fd27_2 a7))
  · intro l R9q hle ha hd
    obtain ⟨d0, _⟩ := hd
    have f31 : l 31 = (.pointer (some ⟨b13, 2, none⟩)) := d0 rfl
    exact gstep_plain rfl rfl rfl (ph_val (val_loadB (i := 0) ag25 f31 rfl rfl))
  · intro l R10q hle ha hd
    obtain ⟨d0, _⟩ := hd
    have f32 : l 32 = v15 := d0 rfl
    exact gstep_plain rfl rfl rfl (ph_val (val_lenR rfl Try.underlying25 f32 (sl_s (h16.mono hle))))
  · intro l R11q hle ha hd
    obtain ⟨d0, d1, d2, _⟩ := hd
    have f30 : l 30 = (.int .i64 to_) := d0 rfl
    have f33 : l 33 = (.int .i64 (↑y7.rows.length : Int)) := d1 rfl
    exact gstep_plain rfl rfl rfl (ph_val (val_rem0 f30 f33 g20))
  · intro l R12q hle ha hd
    obtain ⟨d0, d1, d2, d3, d4, d5, d6, d7, d8, d9, d10, d11, d12, _⟩ := hd
    have f28 : l 28 = (.int .i64 (from_ % (↑y7.rows.length : Int))) := d0 rfl
    exact gstep_plain rfl rfl rfl (ph_val (val_assign f28))
  · intro l R13q hle ha hd
    obtain ⟨d0, d1, d2, d3, d4, d5, d6, d7, d8, d9, d10, d11, d12, d13, d14, _⟩ := hd
    have f34 : l 34 = (.int .i64 (to_ % (↑y7.rows.length : Int))) := d0 rfl
    exact gstep_plain rfl rfl rfl (ph_val (val_assign f34))
  intro v23 h24
  intro v25 h26
  intro v27 h28
  intro v29 h30
  intro v31 h32
  intro v33 h34
  intro v35 h36
  intro v37 h38
  intro v39 h40
  intro v41 h42
  intro v43 h44
  intro v45 h46
  intro v47 h48
  intro v49 h50
  obtain rfl := Eq.symm h24
  obtain rfl := Eq.symm h26
  obtain rfl := Eq.symm h28
  obtain rfl := Eq.symm h30
  obtain rfl := Eq.symm h32
  obtain rfl := Eq.symm h34
  obtain rfl := Eq.symm h36
  obtain rfl := Eq.symm h38
  obtain rfl := Eq.symm h40
  obtain rfl := Eq.symm h42
  obtain rfl := Eq.symm h44
  obtain rfl := Eq.symm h46
  obtain rfl := Eq.symm h48
  obtain rfl := Eq.symm h50
  refine wo_nil ?_
  refine wg_seq ?_
  refine wg_region ?_
  refine wo_v rfl (val_loadBA (i := 0) ag27 sz27 rfl rfl rfl rfl) ?_
  refine wo_v rfl (val_move (v := (.int .i64 (from_ % (↑y7.rows.length : Int)))) rfl) ?_
  refine wo_v rfl (val_move (v := (.int .i64 (to_ % (↑y7.rows.length : Int)))) rfl) ?_
  replace hd0 := bd_some hd0; obtain ⟨y51, c52, hd0⟩ := hd0
  refine wo_callP rfl en19 rfl (c_walks_Path (⟨_, ⟨_, _, rfl, rfl, ⟨_, _, rfl, rfl, (rep_one rfl (h16.mono le22))⟩⟩, rfl⟩ : VRep (kMach false false) _ _ (⟨y7.inputs, y7.outputs, y7.rows⟩ : Mach)) c52) fun v53 R55 le56 h54 => ?_
  obtain ⟨v57, rfl, h58⟩ := h54
  refine wo_v rfl (val_move (v := (.tuple #[v57, (.bool y51.2.1), (.int .i64 y51.2.2)])) rfl) ?_
  refine wo_v rfl (val_extract rfl rfl) ?_
  refine wo_v rfl (val_extract rfl rfl) ?_
  refine wo_v rfl (val_extract rfl rfl) ?_
  refine wo_v rfl (val_assign (v := v57) rfl) ?_
  refine wo_v rfl (val_assign (v := (.bool y51.2.1)) rfl) ?_
  refine wo_v rfl (val_assign (v := (.int .i64 y51.2.2)) rfl) ?_
  refine wo_nil ?_
  refine wg_seq ?_
  refine wg_region ?_
  refine wo_v rfl (val_loadBA (i := 0) ag27 sz27 rfl rfl rfl rfl) ?_
  refine wo_v rfl (val_move (v := (.int .i64 (from_ % (↑y7.rows.length : Int)))) rfl) ?_
  replace hd0 := bd_some hd0; obtain ⟨y59, c60, hd0⟩ := hd0
  refine wo_callP rfl en20 rfl (c_walks_Distances (⟨_, ⟨_, _, rfl, rfl, ⟨_, _, rfl, rfl, (rep_one rfl (h16.mono (le22.trans le56)))⟩⟩, rfl⟩ : VRep (kMach false false) _ _ (⟨y7.inputs, y7.outputs, y7.rows⟩ : Mach)) c60) fun v61 R63 le64 h62 => ?_
  obtain ⟨v65, rfl, h66⟩ := h62
  refine wo_v rfl (val_move (v := (.tuple #[v65, (.int .i64 y59.2)])) rfl) ?_
  refine wo_v rfl (val_extract rfl rfl) ?_
  refine wo_v rfl (val_extract rfl rfl) ?_
  refine wo_v rfl (val_assign (v := v65) rfl) ?_
  refine wo_v rfl (val_assign (v := (.int .i64 y59.2)) rfl) ?_
  refine wo_nil ?_
  refine wg_seq ?_
  refine wg_region ?_
  refine wo_v rfl (val_loadBA (i := 0) ag27 sz27 rfl rfl rfl rfl) ?_
  refine wo_v rfl (val_move (v := (.int .i64 (from_ % (↑y7.rows.length : Int)))) rfl) ?_
  replace hd0 := bd_some hd0; obtain ⟨y67, c68, hd0⟩ := hd0
  refine wo_callP rfl en21 rfl (c_gauntletref06_Paths (⟨_, ⟨_, _, rfl, rfl, ⟨_, _, rfl, rfl, (rep_one rfl (h16.mono ((le22.trans le56).trans le64)))⟩⟩, rfl⟩ : VRep (kMach false false) _ _ (⟨y7.inputs, y7.outputs, y7.rows⟩ : Mach)) c68) fun v69 R71 le72 h70 => ?_
  obtain ⟨v73, v75, rfl, h74, h76⟩ := h70
  refine wo_v rfl (val_move (v := (.tuple #[v73, v75])) rfl) ?_
  refine wo_v rfl (val_extract rfl rfl) ?_
  refine wo_v rfl (val_extract rfl rfl) ?_
  refine wo_v rfl (val_assign (v := v73) rfl) ?_
  refine wo_v rfl (val_assign (v := v75) rfl) ?_
  refine wo_nil ?_
  refine wg_seq ?_
  refine wg_seq ?_
  have g77 := (gd_some hd0).1; replace hd0 := (gd_some hd0).2
  replace hd0 := bd_some hd0; obtain ⟨y78, c79, hd0⟩ := hd0
  have g80 := (gd_some hd0).1; replace hd0 := (gd_some hd0).2
  refine wg_guarded 34 [] [phX v57, phX (.int .i64 y51.2.2), phX v73, phX (.int .i64 (to_ % (↑y7.rows.length : Int))), phP (tSl false (tInt .i64)) (ix y67.1 (to_ % (↑y7.rows.length : Int))), phR (tSl false (tInt .i64)) (ix y67.1 (to_ % (↑y7.rows.length : Int))), phX (.bool y78), phX (.bool (!y78)), phX (.bool (!y78)), phG (true && ((!y78) == false)) (phX (.bool y51.2.1)), phG (true && ((!y78) == false)) (phX v75), phG (true && ((!y78) == false)) (phX (.int .i64 (to_ % (↑y7.rows.length : Int)))), phG (true && ((!y78) == false)) (phP tBool (ix y67.2 (to_ % (↑y7.rows.length : Int)))), phG (true && ((!y78) == false)) (phX (.bool (ix y67.2 (to_ % (↑y7.rows.length : Int))))), phG (true && ((!y78) == false)) (phX (.bool (decide (y51.2.1 ≠ (ix y67.2 (to_ % (↑y7.rows.length : Int))))))), phX (.bool ((!y78) || (decide (y51.2.1 ≠ (ix y67.2 (to_ % (↑y7.rows.length : Int))))))), phX (.bool ((!y78) || (decide (y51.2.1 ≠ (ix y67.2 (to_ % (↑y7.rows.length : Int))))))), phG (true && (((!y78) || (decide (y51.2.1 ≠ (ix y67.2 (to_ % (↑y7.rows.length : Int)))))) == false)) (phX (.int .i64 y59.2)), phG (true && (((!y78) || (decide (y51.2.1 ≠ (ix y67.2 (to_ % (↑y7.rows.length : Int)))))) == false)) (phX (.bool (decide (y59.2 ≠ 0)))), phX (.bool (((!y78) || (decide (y51.2.1 ≠ (ix y67.2 (to_ % (↑y7.rows.length : Int)))))) || (decide (y59.2 ≠ 0)))), phX (.bool (((!y78) || (decide (y51.2.1 ≠ (ix y67.2 (to_ % (↑y7.rows.length : Int)))))) || (decide (y59.2 ≠ 0)))), phG (true && ((((!y78) || (decide (y51.2.1 ≠ (ix y67.2 (to_ % (↑y7.rows.length : Int)))))) || (decide (y59.2 ≠ 0))) == false)) (phX v65), phG (true && ((((!y78) || (decide (y51.2.1 ≠ (ix y67.2 (to_ % (↑y7.rows.length : Int)))))) || (decide (y59.2 ≠ 0))) == false)) (phX (.int .i64 (↑y59.1.length : Int))), phG (true && ((((!y78) || (decide (y51.2.1 ≠ (ix y67.2 (to_ % (↑y7.rows.length : Int)))))) || (decide (y59.2 ≠ 0))) == false)) (phX v73), phG (true && ((((!y78) || (decide (y51.2.1 ≠ (ix y67.2 (to_ % (↑y7.rows.length : Int)))))) || (decide (y59.2 ≠ 0))) == false)) (phX (.int .i64 (↑y67.1.length : Int))), phG (true && ((((!y78) || (decide (y51.2.1 ≠ (ix y67.2 (to_ % (↑y7.rows.length : Int)))))) || (decide (y59.2 ≠ 0))) == false)) (phX (.bool (decide ((↑y59.1.length : Int) ≠ (↑y67.1.length : Int))))), phX (.bool ((((!y78) || (decide (y51.2.1 ≠ (ix y67.2 (to_ % (↑y7.rows.length : Int)))))) || (decide (y59.2 ≠ 0))) || (decide ((↑y59.1.length : Int) ≠ (↑y67.1.length : Int))))), phX (.bool ((((!y78) || (decide (y51.2.1 ≠ (ix y67.2 (to_ % (↑y7.rows.length : Int)))))) || (decide (y59.2 ≠ 0))) || (decide ((↑y59.1.length : Int) ≠ (↑y67.1.length : Int))))), phG (true && (((((!y78) || (decide (y51.2.1 ≠ (ix y67.2 (to_ % (↑y7.rows.length : Int)))))) || (decide (y59.2 ≠ 0))) || (decide ((↑y59.1.length : Int) ≠ (↑y67.1.length : Int)))) == false)) (phX v65), phG (true && (((((!y78) || (decide (y51.2.1 ≠ (ix y67.2 (to_ % (↑y7.rows.length : Int)))))) || (decide (y59.2 ≠ 0))) || (decide ((↑y59.1.length : Int) ≠ (↑y67.1.length : Int)))) == false)) (phX (.int .i64 (↑y59.1.length : Int))), phG (true && (((((!y78) || (decide (y51.2.1 ≠ (ix y67.2 (to_ % (↑y7.rows.length : Int)))))) || (decide (y59.2 ≠ 0))) || (decide ((↑y59.1.length : Int) ≠ (↑y67.1.length : Int)))) == false)) (phX v65), phG (true && (((((!y78) || (decide (y51.2.1 ≠ (ix y67.2 (to_ % (↑y7.rows.length : Int)))))) || (decide (y59.2 ≠ 0))) || (decide ((↑y59.1.length : Int) ≠ (↑y67.1.length : Int)))) == false)) (phX (.int .i64 (↑y59.1.length : Int))), phG (true && (((((!y78) || (decide (y51.2.1 ≠ (ix y67.2 (to_ % (↑y7.rows.length : Int)))))) || (decide (y59.2 ≠ 0))) || (decide ((↑y59.1.length : Int) ≠ (↑y67.1.length : Int)))) == false)) (phX (.bool (decide ((↑y59.1.length : Int) ≠ (↑y59.1.length : Int))))), phX (.bool (((((!y78) || (decide (y51.2.1 ≠ (ix y67.2 (to_ % (↑y7.rows.length : Int)))))) || (decide (y59.2 ≠ 0))) || (decide ((↑y59.1.length : Int) ≠ (↑y67.1.length : Int)))) || (decide ((↑y59.1.length : Int) ≠ (↑y59.1.length : Int)))))] (by kernel_rfl) (by kernel_rfl) (monoOk_of ⟨mono_x, mono_x, mono_x, mono_x, mono_p, mono_r, mono_x, mono_x, mono_x, (mono_g mono_x), (mono_g mono_x), (mono_g mono_x), (mono_g mono_p), (mono_g mono_x), (mono_g mono_x), mono_x, mono_x, (mono_g mono_x), (mono_g mono_x), mono_x, mono_x, (mono_g mono_x), (mono_g mono_x), (mono_g mono_x), (mono_g mono_x), (mono_g mono_x), mono_x, mono_x, (mono_g mono_x), (mono_g mono_x), (mono_g mono_x), (mono_g mono_x), (mono_g mono_x), mono_x, trivial⟩) ⟨?_, ?_, ?_, ?_, ?_, ?_, ?_, ?_, ?_, ?_, ?_, ?_, ?_, ?_, ?_, ?_, ?_, ?_, ?_, ?_, ?_, ?_, ?_, ?_, ?_, ?_, ?_, ?_, ?_, ?_, ?_, ?_, ?_, ?_, trivial⟩ fun R81 le82 => ?_
  · intro l R0q hle ha hd
    have a10 : l 10 = v57 := ha 10 rfl
    exact gstep_plain rfl rfl rfl (ph_val (val_move a10))
  · intro l R1q hle ha hd
    have a12 : l 12 = (.int .i64 y51.2.2) := ha 12 rfl
    exact gstep_plain rfl rfl rfl (ph_val (val_move a12))
  · intro l R2q hle ha hd
    have a15 : l 15 = v73 := ha 15 rfl
    exact gstep_plain rfl rfl rfl (ph_val (val_move a15))
  · intro l R3q hle ha hd
    have a9 : l 9 = (.int .i64 (to_ % (↑y7.rows.length : Int))) := ha 9 rfl
    exact gstep_plain rfl rfl rfl (ph_val (val_move a9))
  · intro l R4q hle ha hd
    obtain ⟨d0, d1, _⟩ := hd
    have f57 : l 57 = v73 := d0 rfl
    have f58 : l 58 = (.int .i64 (to_ % (↑y7.rows.length : Int))) := d1 rfl
    exact gstep_plain rfl rfl rfl (ph_indexR (i := (to_ % (↑y7.rows.length : Int)).toNat) sl29 f57 (sl_s (h74.mono hle)) (idx_nonneg f58 g77.1) (okI_lt g77))
  · intro l R5q hle ha hd
    obtain ⟨d0, _⟩ := hd
    have f59 : phP (tSl false (tInt .i64)) (ix y67.1 (to_ % (↑y7.rows.length : Int))) (l 59) R5q := d0 rfl
    exact gstep_plain rfl rfl rfl (ph_loadR ty36 rfl f59)
  · intro l R6q hle ha hd
    obtain ⟨d0, d1, d2, _⟩ := hd
    have f55 : l 55 = v57 := d0 rfl
    have f56 : l 56 = (.int .i64 y51.2.2) := d1 rfl
    have f60 : phR (tSl false (tInt .i64)) (ix y67.1 (to_ % (↑y7.rows.length : Int))) (l 60) R6q := d2 rfl
    exact gstep_plain rfl rfl rfl (ph_callP (vs := [v57, (.int .i64 y51.2.2), (l 60), (.int .i64 0)]) en14 (by simp only [List.map, ev, f55, f56] <;> rfl) (c_gauntletlaw06_list ((h58.mono (le64.trans le72)).mono hle) f60 c79) (fun _ _ h => h))
  · intro l R7q hle ha hd
    obtain ⟨d0, _⟩ := hd
    have f61 : l 61 = (.bool y78) := d0 rfl
    exact gstep_plain rfl rfl rfl (ph_val (val_not f61))
  · intro l R8q hle ha hd
    obtain ⟨d0, d1, _⟩ := hd
    have f62 : l 62 = (.bool (!y78)) := d0 rfl
    exact gstep_plain rfl rfl rfl (ph_val (val_move f62))
  · intro l R9q hle ha hd
    obtain ⟨d0, _⟩ := hd
    have a11 : l 11 = (.bool y51.2.1) := ha 11 rfl
    exact gstep_guard (Gj := true) (Bj := !y78) rfl rfl rfl (gtrue (d0 rfl)) rfl (fun hG hB => ph_val (val_move a11))
  · intro l R10q hle ha hd
    obtain ⟨d0, _⟩ := hd
    have a16 : l 16 = v75 := ha 16 rfl
    exact gstep_guard (Gj := true) (Bj := !y78) rfl rfl rfl (gtrue (d0 rfl)) rfl (fun hG hB => ph_val (val_move a16))
  · intro l R11q hle ha hd
    obtain ⟨d0, _⟩ := hd
    have a9 : l 9 = (.int .i64 (to_ % (↑y7.rows.length : Int))) := ha 9 rfl
    exact gstep_guard (Gj := true) (Bj := !y78) rfl rfl rfl (gtrue (d0 rfl)) rfl (fun hG hB => ph_val (val_move a9))
  · intro l R12q hle ha hd
    obtain ⟨d0, d1, d2, _⟩ := hd
    have f65g : phG (true && ((!y78) == false)) (phX v75) (l 65) R12q := d0 rfl
    have f66g : phG (true && ((!y78) == false)) (phX (.int .i64 (to_ % (↑y7.rows.length : Int)))) (l 66) R12q := d1 rfl
    exact gstep_guard (Gj := true) (Bj := !y78) rfl rfl rfl (gtrue (d2 rfl)) rfl (fun hG hB => ph_indexR (i := (to_ % (↑y7.rows.length : Int)).toNat) sl30 (show l 65 = v75 from f65g.1 (gandT rfl hB)) (sl_s (h76.mono hle)) (idx_nonneg (show l 66 = (.int .i64 (to_ % (↑y7.rows.length : Int))) from f66g.1 (gandT rfl hB)) (g80 (gandT hG hB)).1) (okI_lt (g80 (gandT hG hB))))
  · intro l R13q hle ha hd
    obtain ⟨d0, d1, _⟩ := hd
    have f67g : phG (true && ((!y78) == false)) (phP tBool (ix y67.2 (to_ % (↑y7.rows.length : Int)))) (l 67) R13q := d0 rfl
    exact gstep_guard (Gj := true) (Bj := !y78) rfl rfl rfl (gtrue (d1 rfl)) rfl (fun hG hB => ph_exact (ph_loadR ty4 rfl (f67g.1 (gandT rfl hB))) (fun _ _ h => vrep_bool.1 h))
  · intro l R14q hle ha hd
    obtain ⟨d0, d1, d2, _⟩ := hd
    have f64g : phG (true && ((!y78) == false)) (phX (.bool y51.2.1)) (l 64) R14q := d0 rfl
    have f68g : phG (true && ((!y78) == false)) (phX (.bool (ix y67.2 (to_ % (↑y7.rows.length : Int))))) (l 68) R14q := d1 rfl
    exact gstep_guard (Gj := true) (Bj := !y78) rfl rfl rfl (gtrue (d2 rfl)) rfl (fun hG hB => ph_val (val_neqB Try.underlying4 (show l 64 = (.bool y51.2.1) from f64g.1 (gandT rfl hB)) (show l 68 = (.bool (ix y67.2 (to_ % (↑y7.rows.length : Int)))) from f68g.1 (gandT rfl hB))))
  · intro l R15q hle ha hd
    obtain ⟨d0, d1, _⟩ := hd
    have f63 : l 63 = (.bool (!y78)) := d0 rfl
    have f69g : phG (true && ((!y78) == false)) (phX (.bool (decide (y51.2.1 ≠ (ix y67.2 (to_ % (↑y7.rows.length : Int))))))) (l 69) R15q := d1 rfl
    exact gstep_plain rfl rfl rfl (ph_val (val_or f63 rfl (fun hb => (show l 69 = (.bool (decide (y51.2.1 ≠ (ix y67.2 (to_ % (↑y7.rows.length : Int)))))) from f69g.1 (gandT rfl hb)))))
  · intro l R16q hle ha hd
    obtain ⟨d0, d1, _⟩ := hd
    have f70 : l 70 = (.bool ((!y78) || (decide (y51.2.1 ≠ (ix y67.2 (to_ % (↑y7.rows.length : Int))))))) := d0 rfl
    exact gstep_plain rfl rfl rfl (ph_val (val_move f70))
  · intro l R17q hle ha hd
    obtain ⟨d0, _⟩ := hd
    have a14 : l 14 = (.int .i64 y59.2) := ha 14 rfl
    exact gstep_guard (Gj := true) (Bj := (!y78) || (decide (y51.2.1 ≠ (ix y67.2 (to_ % (↑y7.rows.length : Int)))))) rfl rfl rfl (gtrue (d0 rfl)) rfl (fun hG hB => ph_val (val_move a14))
  · intro l R18q hle ha hd
    obtain ⟨d0, d1, _⟩ := hd
    have f72g : phG (true && (((!y78) || (decide (y51.2.1 ≠ (ix y67.2 (to_ % (↑y7.rows.length : Int)))))) == false)) (phX (.int .i64 y59.2)) (l 72) R18q := d0 rfl
    exact gstep_guard (Gj := true) (Bj := (!y78) || (decide (y51.2.1 ≠ (ix y67.2 (to_ % (↑y7.rows.length : Int)))))) rfl rfl rfl (gtrue (d1 rfl)) rfl (fun hG hB => ph_val (val_neq (show l 72 = (.int .i64 y59.2) from f72g.1 (gandT rfl hB)) rfl))
  · intro l R19q hle ha hd
    obtain ⟨d0, d1, _⟩ := hd
    have f71 : l 71 = (.bool ((!y78) || (decide (y51.2.1 ≠ (ix y67.2 (to_ % (↑y7.rows.length : Int))))))) := d0 rfl
    have f73g : phG (true && (((!y78) || (decide (y51.2.1 ≠ (ix y67.2 (to_ % (↑y7.rows.length : Int)))))) == false)) (phX (.bool (decide (y59.2 ≠ 0)))) (l 73) R19q := d1 rfl
    exact gstep_plain rfl rfl rfl (ph_val (val_or f71 rfl (fun hb => (show l 73 = (.bool (decide (y59.2 ≠ 0))) from f73g.1 (gandT rfl hb)))))
  · intro l R20q hle ha hd
    obtain ⟨d0, d1, _⟩ := hd
    have f74 : l 74 = (.bool (((!y78) || (decide (y51.2.1 ≠ (ix y67.2 (to_ % (↑y7.rows.length : Int)))))) || (decide (y59.2 ≠ 0)))) := d0 rfl
    exact gstep_plain rfl rfl rfl (ph_val (val_move f74))
  · intro l R21q hle ha hd
    obtain ⟨d0, _⟩ := hd
    have a13 : l 13 = v65 := ha 13 rfl
    exact gstep_guard (Gj := true) (Bj := ((!y78) || (decide (y51.2.1 ≠ (ix y67.2 (to_ % (↑y7.rows.length : Int)))))) || (decide (y59.2 ≠ 0))) rfl rfl rfl (gtrue (d0 rfl)) rfl (fun hG hB => ph_val (val_move a13))
  · intro l R22q hle ha hd
    obtain ⟨d0, d1, _⟩ := hd
    have f76g : phG (true && ((((!y78) || (decide (y51.2.1 ≠ (ix y67.2 (to_ % (↑y7.rows.length : Int)))))) || (decide (y59.2 ≠ 0))) == false)) (phX v65) (l 76) R22q := d0 rfl
    exact gstep_guard (Gj := true) (Bj := ((!y78) || (decide (y51.2.1 ≠ (ix y67.2 (to_ % (↑y7.rows.length : Int)))))) || (decide (y59.2 ≠ 0))) rfl rfl rfl (gtrue (d1 rfl)) rfl (fun hG hB => ph_val (val_lenR rfl Try.underlying36 (show l 76 = v65 from f76g.1 (gandT rfl hB)) (sl_s ((h66.mono le72).mono hle))))
  · intro l R23q hle ha hd
    obtain ⟨d0, _⟩ := hd
    have a15 : l 15 = v73 := ha 15 rfl
    exact gstep_guard (Gj := true) (Bj := ((!y78) || (decide (y51.2.1 ≠ (ix y67.2 (to_ % (↑y7.rows.length : Int)))))) || (decide (y59.2 ≠ 0))) rfl rfl rfl (gtrue (d0 rfl)) rfl (fun hG hB => ph_val (val_move a15))
  · intro l R24q hle ha hd
    obtain ⟨d0, d1, _⟩ := hd
    have f78g : phG (true && ((((!y78) || (decide (y51.2.1 ≠ (ix y67.2 (to_ % (↑y7.rows.length : Int)))))) || (decide (y59.2 ≠ 0))) == false)) (phX v73) (l 78) R24q := d0 rfl
    exact gstep_guard (Gj := true) (Bj := ((!y78) || (decide (y51.2.1 ≠ (ix y67.2 (to_ % (↑y7.rows.length : Int)))))) || (decide (y59.2 ≠ 0))) rfl rfl rfl (gtrue (d1 rfl)) rfl (fun hG hB => ph_val (val_lenR rfl Try.underlying29 (show l 78 = v73 from f78g.1 (gandT rfl hB)) (sl_s (h74.mono hle))))
  · intro l R25q hle ha hd
    obtain ⟨d0, d1, d2, _⟩ := hd
    have f77g : phG (true && ((((!y78) || (decide (y51.2.1 ≠ (ix y67.2 (to_ % (↑y7.rows.length : Int)))))) || (decide (y59.2 ≠ 0))) == false)) (phX (.int .i64 (↑y59.1.length : Int))) (l 77) R25q := d0 rfl
    have f79g : phG (true && ((((!y78) || (decide (y51.2.1 ≠ (ix y67.2 (to_ % (↑y7.rows.length : Int)))))) || (decide (y59.2 ≠ 0))) == false)) (phX (.int .i64 (↑y67.1.length : Int))) (l 79) R25q := d1 rfl
    exact gstep_guard (Gj := true) (Bj := ((!y78) || (decide (y51.2.1 ≠ (ix y67.2 (to_ % (↑y7.rows.length : Int)))))) || (decide (y59.2 ≠ 0))) rfl rfl rfl (gtrue (d2 rfl)) rfl (fun hG hB => ph_val (val_neq (show l 77 = (.int .i64 (↑y59.1.length : Int)) from f77g.1 (gandT rfl hB)) (show l 79 = (.int .i64 (↑y67.1.length : Int)) from f79g.1 (gandT rfl hB))))
  · intro l R26q hle ha hd
    obtain ⟨d0, d1, _⟩ := hd
    have f75 : l 75 = (.bool (((!y78) || (decide (y51.2.1 ≠ (ix y67.2 (to_ % (↑y7.rows.length : Int)))))) || (decide (y59.2 ≠ 0)))) := d0 rfl
    have f80g : phG (true && ((((!y78) || (decide (y51.2.1 ≠ (ix y67.2 (to_ % (↑y7.rows.length : Int)))))) || (decide (y59.2 ≠ 0))) == false)) (phX (.bool (decide ((↑y59.1.length : Int) ≠ (↑y67.1.length : Int))))) (l 80) R26q := d1 rfl
    exact gstep_plain rfl rfl rfl (ph_val (val_or f75 rfl (fun hb => (show l 80 = (.bool (decide ((↑y59.1.length : Int) ≠ (↑y67.1.length : Int)))) from f80g.1 (gandT rfl hb)))))
  · intro l R27q hle ha hd
    obtain ⟨d0, d1, _⟩ := hd
    have f81 : l 81 = (.bool ((((!y78) || (decide (y51.2.1 ≠ (ix y67.2 (to_ % (↑y7.rows.length : Int)))))) || (decide (y59.2 ≠ 0))) || (decide ((↑y59.1.length : Int) ≠ (↑y67.1.length : Int))))) := d0 rfl
    exact gstep_plain rfl rfl rfl (ph_val (val_move f81))
  · intro l R28q hle ha hd
    obtain ⟨d0, _⟩ := hd
    have a13 : l 13 = v65 := ha 13 rfl
    exact gstep_guard (Gj := true) (Bj := (((!y78) || (decide (y51.2.1 ≠ (ix y67.2 (to_ % (↑y7.rows.length : Int)))))) || (decide (y59.2 ≠ 0))) || (decide ((↑y59.1.length : Int) ≠ (↑y67.1.length : Int)))) rfl rfl rfl (gtrue (d0 rfl)) rfl (fun hG hB => ph_val (val_move a13))
  · intro l R29q hle ha hd
    obtain ⟨d0, d1, _⟩ := hd
    have f83g : phG (true && (((((!y78) || (decide (y51.2.1 ≠ (ix y67.2 (to_ % (↑y7.rows.length : Int)))))) || (decide (y59.2 ≠ 0))) || (decide ((↑y59.1.length : Int) ≠ (↑y67.1.length : Int)))) == false)) (phX v65) (l 83) R29q := d0 rfl
    exact gstep_guard (Gj := true) (Bj := (((!y78) || (decide (y51.2.1 ≠ (ix y67.2 (to_ % (↑y7.rows.length : Int)))))) || (decide (y59.2 ≠ 0))) || (decide ((↑y59.1.length : Int) ≠ (↑y67.1.length : Int)))) rfl rfl rfl (gtrue (d1 rfl)) rfl (fun hG hB => ph_val (val_capT rfl Try.underlying36 (show l 83 = v65 from f83g.1 (gandT rfl hB)) ((h66.mono le72).mono hle)))
  · intro l R30q hle ha hd
    obtain ⟨d0, _⟩ := hd
    have a13 : l 13 = v65 := ha 13 rfl
    exact gstep_guard (Gj := true) (Bj := (((!y78) || (decide (y51.2.1 ≠ (ix y67.2 (to_ % (↑y7.rows.length : Int)))))) || (decide (y59.2 ≠ 0))) || (decide ((↑y59.1.length : Int) ≠ (↑y67.1.length : Int)))) rfl rfl rfl (gtrue (d0 rfl)) rfl (fun hG hB => ph_val (val_move a13))
  · intro l R31q hle ha hd
    obtain ⟨d0, d1, _⟩ := hd
    have f85g : phG (true && (((((!y78) || (decide (y51.2.1 ≠ (ix y67.2 (to_ % (↑y7.rows.length : Int)))))) || (decide (y59.2 ≠ 0))) || (decide ((↑y59.1.length : Int) ≠ (↑y67.1.length : Int)))) == false)) (phX v65) (l 85) R31q := d0 rfl
    exact gstep_guard (Gj := true) (Bj := (((!y78) || (decide (y51.2.1 ≠ (ix y67.2 (to_ % (↑y7.rows.length : Int)))))) || (decide (y59.2 ≠ 0))) || (decide ((↑y59.1.length : Int) ≠ (↑y67.1.length : Int)))) rfl rfl rfl (gtrue (d1 rfl)) rfl (fun hG hB => ph_val (val_lenR rfl Try.underlying36 (show l 85 = v65 from f85g.1 (gandT rfl hB)) (sl_s ((h66.mono le72).mono hle))))
  · intro l R32q hle ha hd
    obtain ⟨d0, d1, d2, _⟩ := hd
    have f84g : phG (true && (((((!y78) || (decide (y51.2.1 ≠ (ix y67.2 (to_ % (↑y7.rows.length : Int)))))) || (decide (y59.2 ≠ 0))) || (decide ((↑y59.1.length : Int) ≠ (↑y67.1.length : Int)))) == false)) (phX (.int .i64 (↑y59.1.length : Int))) (l 84) R32q := d0 rfl
    have f86g : phG (true && (((((!y78) || (decide (y51.2.1 ≠ (ix y67.2 (to_ % (↑y7.rows.length : Int)))))) || (decide (y59.2 ≠ 0))) || (decide ((↑y59.1.length : Int) ≠ (↑y67.1.length : Int)))) == false)) (phX (.int .i64 (↑y59.1.length : Int))) (l 86) R32q := d1 rfl
    exact gstep_guard (Gj := true) (Bj := (((!y78) || (decide (y51.2.1 ≠ (ix y67.2 (to_ % (↑y7.rows.length : Int)))))) || (decide (y59.2 ≠ 0))) || (decide ((↑y59.1.length : Int) ≠ (↑y67.1.length : Int)))) rfl rfl rfl (gtrue (d2 rfl)) rfl (fun hG hB => ph_val (val_neq (show l 84 = (.int .i64 (↑y59.1.length : Int)) from f84g.1 (gandT rfl hB)) (show l 86 = (.int .i64 (↑y59.1.length : Int)) from f86g.1 (gandT rfl hB))))
  · intro l R33q hle ha hd
    obtain ⟨d0, d1, _⟩ := hd
    have f82 : l 82 = (.bool ((((!y78) || (decide (y51.2.1 ≠ (ix y67.2 (to_ % (↑y7.rows.length : Int)))))) || (decide (y59.2 ≠ 0))) || (decide ((↑y59.1.length : Int) ≠ (↑y67.1.length : Int))))) := d0 rfl
    have f87g : phG (true && (((((!y78) || (decide (y51.2.1 ≠ (ix y67.2 (to_ % (↑y7.rows.length : Int)))))) || (decide (y59.2 ≠ 0))) || (decide ((↑y59.1.length : Int) ≠ (↑y67.1.length : Int)))) == false)) (phX (.bool (decide ((↑y59.1.length : Int) ≠ (↑y59.1.length : Int))))) (l 87) R33q := d1 rfl
    exact gstep_plain rfl rfl rfl (ph_val (val_or f82 rfl (fun hb => (show l 87 = (.bool (decide ((↑y59.1.length : Int) ≠ (↑y59.1.length : Int)))) from f87g.1 (gandT rfl hb)))))
  intro v83 h84
  intro v85 h86
  intro v87 h88
  intro v89 h90
  intro v91 h92
  intro v93 h94
  intro v95 h96
  intro v97 h98
  intro v99 h100
  intro v101 h102
  intro v103 h104
  intro v105 h106
  intro v107 h108
  intro v109 h110
  intro v111 h112
  intro v113 h114
  intro v115 h116
  intro v117 h118
  intro v119 h120
  intro v121 h122
  intro v123 h124
  intro v125 h126
  intro v127 h128
  intro v129 h130
  intro v131 h132
  intro v133 h134
  intro v135 h136
  intro v137 h138
  intro v139 h140
  intro v141 h142
  intro v143 h144
  intro v145 h146
  intro v147 h148
  intro v149 h150
  obtain rfl := Eq.symm h84
  obtain rfl := Eq.symm h86
  obtain rfl := Eq.symm h88
  obtain rfl := Eq.symm h90
  obtain rfl := Eq.symm h96
  obtain rfl := Eq.symm h98
  obtain rfl := Eq.symm h100
  obtain rfl := Eq.symm h114
  obtain rfl := Eq.symm h116
  obtain rfl := Eq.symm h122
  obtain rfl := Eq.symm h124
  obtain rfl := Eq.symm h136
  obtain rfl := Eq.symm h138
  obtain rfl := Eq.symm h150
  refine wo_nil ?_
  refine wg_cond rfl (fun e151 => ?_) (fun e151 => ?_)
  · replace hd0 := sel_t e151 hd0; clear e151
    refine wg_seq ?_
    refine wg_region ?_
    refine wo_v rfl (val_assign (v := (.bool false)) rfl) ?_
    refine wo_nil ?_
    refine wg_ret ?_
    obtain rfl := Option.some.inj hd0
    refine body_end (D := []) (J := [box b13 [(.int .i64 y7.inputs), (.int .i64 y7.outputs), v15] 27]) (rs := [.tmp 6]) (vs := [(.bool false)]) ((((((le4.trans le12).trans le22).trans le56).trans le64).trans le72).trans le82) rfl rfl ⟨rfl, trivial⟩ ?_
    exact ⟨rfl, rfl⟩
  · replace hd0 := sel_f e151 hd0; clear e151
    refine wg_skip ?_
    replace hd0 := bd_some hd0; obtain ⟨q153, hd1, hd0⟩ := hd0
    refine wg_meet (γ := Unit) true [17, 89, 90, 91, 92, 18, 95, 96, 97, 98, 99, 100, 101, 102, 103, 104, 105, 106, 107, 108, 109, 6, 19, 110, 111, 112, 113, 116, 117, 118, 119, 120, 121, 122, 123, 124, 20, 125, 126, 127, 128, 129, 130, 131, 132, 133, 134, 135, 136, 137, 138, 139, 140, 141, 142, 143, 144, 145, 146, 147, 148, 149, 150, 151, 152, 114, 115, 93, 94] (fun g => []) (fun g => [] ++ A) (fun g R => q153 = Ex.go g ∧ True) ?_ ?_
    ·
      refine wg_seq ?_
      refine wg_region ?_
      refine wo_v rfl (val_assign (v := (.int .i64 0)) rfl) ?_
      refine wo_nil ?_
      refine wg_block ?_
      refine wg_loopS (γ := Nat × Int) true [89, 90, 91, 92, 18, 95, 96, 97, 98, 99, 100, 101, 102, 103, 104, 105, 106, 107, 108, 109, 6, 19, 110, 111, 112, 113, 116, 117, 118, 119, 120, 121, 122, 123, 124, 20, 125, 126, 127, 128, 129, 130, 131, 132, 133, 134, 135, 136, 137, 138, 139, 140, 141, 142, 143, 144, 145, 146, 147, 148, 149, 150, 151, 152, 114, 115, 93, 94, 17] (fun g => [(17, (.int .i64 g.2))]) (fun g => [box b13 [(.int .i64 y7.inputs), (.int .i64 y7.outputs), v15] 27] ++ A) (fun g R => gauntletlaw06_WalksPath_L1 N y7 y59 y67 g.1 g.2 = some q153 ∧ True) (fun g => g.1) (N, 0) ⟨rfl, trivial⟩ ⟨[], List.Perm.refl _⟩ ⟨hd1, trivial⟩ (fun _ => rfl) ?_
      clear hd1
      rintro ⟨F156, x157⟩ j277 D278 R158 hD279 le159 ⟨hd1, _⟩
      obtain rfl := hD279 rfl
      rcases F156 with _ | F156
      · exact none_elim hd1
      replace hd1 : gauntletlaw06_WalksPath_L1 N y7 y59 y67 (F156 + 1) x157 = some q153 := hd1; rw [gauntletlaw06_WalksPath_L1] at hd1
      refine wg_seq ?_
      refine wg_seq ?_
      refine wg_region ?_
      refine wo_v rfl (val_move (v := (.int .i64 x157)) rfl) ?_
      refine wo_v rfl (val_move (v := v73) rfl) ?_
      refine wo_v rfl (val_lenR rfl Try.underlying29 rfl (sl_s (h74.mono (le82.trans le159)))) ?_
      refine wo_v rfl (val_lss rfl rfl) ?_
      refine wo_nil ?_
      refine wg_cond rfl (fun e160 => ?_) (fun e160 => ?_)
      · replace hd1 := sel_t e160 hd1; clear e160
        refine wg_skip ?_
        replace hd1 := bd_some hd1; obtain ⟨q162, hd2, hd1⟩ := hd1
        refine wg_meet (γ := Unit) true [18, 95, 96, 97, 98, 99, 100, 101, 102, 103, 104, 105, 106, 107, 108, 109, 6, 19, 110, 111, 112, 113, 116, 117, 118, 119, 120, 121, 122, 123, 124, 20, 125, 126, 127, 128, 129, 130, 131, 132, 133, 134, 135, 136, 137, 138, 139, 140, 141, 142, 143, 144, 145, 146, 147, 148, 149, 150, 151, 152, 114, 115] (fun g => []) (fun g => [box b13 [(.int .i64 y7.inputs), (.int .i64 y7.outputs), v15] 27] ++ A) (fun g R => q162 = Ex.go g ∧ True) ?_ ?_
        ·
          refine wg_block ?_
          refine wg_seq ?_
          refine wg_region ?_
          refine wo_v rfl (val_assign (v := (.int .i64 (-1))) rfl) ?_
          refine wo_nil ?_
          replace hd2 := bd_some hd2; obtain ⟨o165, hd3, hd2⟩ := hd2
          refine wg_meet (γ := Int) true [95, 96, 97, 98, 99, 100, 101, 102, 103, 18] (fun g => [(18, (.int .i64 g))]) (fun g => [box b13 [(.int .i64 y7.inputs), (.int .i64 y7.outputs), v15] 27] ++ A) (fun g R => o165 = g ∧ True) ?_ ?_
          ·
            refine wg_seq ?_
            refine wg_region ?_
            refine wo_v rfl (val_move (v := v75) rfl) ?_
            refine wo_v rfl (val_move (v := (.int .i64 x157)) rfl) ?_
            have g168 := (gd_some hd3).1; replace hd3 := (gd_some hd3).2
            refine wo_indexR (i := x157.toNat) rfl sl30 rfl (sl_s (h76.mono (le82.trans le159))) (idx_nonneg rfl g168.1) (okI_lt g168) fun v169 h170 => ?_
            refine wo_loadR rfl ty4 rfl h170 fun v171 h172 => ?_
            obtain rfl := vrep_bool.1 h172
            refine wo_nil ?_
            refine wg_cond rfl (fun e173 => ?_) (fun e173 => ?_)
            · replace hd3 := sel_t e173 hd3; clear e173
              refine wg_region ?_
              refine wo_v rfl (val_move (v := v73) rfl) ?_
              refine wo_v rfl (val_move (v := (.int .i64 x157)) rfl) ?_
              have g174 := (gd_some hd3).1; replace hd3 := (gd_some hd3).2
              refine wo_indexR (i := x157.toNat) rfl sl29 rfl (sl_s (h74.mono (le82.trans le159))) (idx_nonneg rfl g174.1) (okI_lt g174) fun v175 h176 => ?_
              refine wo_loadR rfl ty36 rfl h176 fun v177 h178 => ?_
              refine wo_v rfl (val_lenR rfl Try.underlying36 rfl (sl_s h178)) ?_
              refine wo_v rfl (val_assign (v := (.int .i64 (↑(ix y67.1 x157).length : Int))) rfl) ?_
              refine wo_nil ?_
              exact ⟨(fun _ => rfl), (RH.le.refl _), (by repeat (first | exact off_self | refine off_upd rfl ?_ | refine off_setl rfl ?_ | refine off_mask_sub rfl ?_)), (↑(ix y67.1 x157).length : Int), ⟨rfl, trivial⟩, ⟨[], List.Perm.refl _⟩, (Option.some.inj hd3).symm, trivial⟩
            · replace hd3 := sel_f e173 hd3; clear e173
              refine wg_skip ?_
              exact ⟨(fun _ => rfl), (RH.le.refl _), (by repeat (first | exact off_self | refine off_upd rfl ?_ | refine off_setl rfl ?_ | refine off_mask_sub rfl ?_)), (-1), ⟨rfl, trivial⟩, ⟨[], List.Perm.refl _⟩, (Option.some.inj hd3).symm, trivial⟩
          ·
            rintro o165 j179 D180 R166 hD181 le167 ⟨rfl, _⟩
            obtain rfl := hD181 rfl
            refine wg_seq ?_
            refine wg_seq ?_
            refine wg_region ?_
            refine wo_v rfl (val_move (v := v65) rfl) ?_
            refine wo_v rfl (val_move (v := (.int .i64 x157)) rfl) ?_
            have g182 := (gd_some hd2).1; replace hd2 := (gd_some hd2).2
            refine wo_indexR (i := x157.toNat) rfl sl36 rfl (sl_s (h66.mono (((le72.trans le82).trans le159).trans le167))) (idx_nonneg rfl g182.1) (okI_lt g182) fun v183 h184 => ?_
            refine wo_loadR rfl ty3 rfl h184 fun v185 h186 => ?_
            obtain rfl := vrep_int.1 h186
            refine wo_v rfl (val_move (v := (.int .i64 o165)) rfl) ?_
            refine wo_v rfl (val_neq rfl rfl) ?_
            refine wo_nil ?_
            refine wg_cond rfl (fun e187 => ?_) (fun e187 => ?_)
            · replace hd2 := sel_t e187 hd2; clear e187
              refine wg_seq ?_
              refine wg_region ?_
              refine wo_v rfl (val_assign (v := (.bool false)) rfl) ?_
              refine wo_nil ?_
              refine wg_ret ?_
              replace hd1 := on_rt hd2 hd1
              replace hd0 := on_rt hd1 hd0
              obtain rfl := Option.some.inj hd0
              refine body_end (D := []) (J := [box b13 [(.int .i64 y7.inputs), (.int .i64 y7.outputs), v15] 27]) (rs := [.tmp 6]) (vs := [(.bool false)]) ((((((((le4.trans le12).trans le22).trans le56).trans le64).trans le72).trans le82).trans le159).trans le167) rfl rfl ⟨rfl, trivial⟩ ?_
              exact ⟨rfl, rfl⟩
            · replace hd2 := sel_f e187 hd2; clear e187
              refine wg_skip ?_
              refine wg_seq ?_
              refine wg_region ?_
              refine wo_v rfl (val_assign (v := (.int .i64 0)) rfl) ?_
              refine wo_nil ?_
              refine wg_block ?_
              refine wg_loopS (γ := Nat × Int) true [110, 111, 112, 113, 116, 117, 118, 119, 120, 121, 122, 123, 124, 20, 125, 126, 127, 128, 129, 130, 131, 132, 133, 134, 135, 136, 137, 138, 139, 140, 141, 142, 143, 144, 145, 146, 147, 148, 149, 150, 151, 152, 6, 114, 115, 19] (fun g => [(19, (.int .i64 g.2))]) (fun g => [box b13 [(.int .i64 y7.inputs), (.int .i64 y7.outputs), v15] 27] ++ A) (fun g R => gauntletlaw06_WalksPath_L2 N y7 y59 x157 g.1 g.2 = some q162 ∧ True) (fun g => g.1) (N, 0) ⟨rfl, trivial⟩ ⟨[], List.Perm.refl _⟩ ⟨hd2, trivial⟩ (fun _ => rfl) ?_
              clear hd2
              rintro ⟨F188, x189⟩ j270 D271 R190 hD272 le191 ⟨hd2, _⟩
              obtain rfl := hD272 rfl
              rcases F188 with _ | F188
              · exact none_elim hd2
              replace hd2 : gauntletlaw06_WalksPath_L2 N y7 y59 x157 (F188 + 1) x189 = some q162 := hd2; rw [gauntletlaw06_WalksPath_L2] at hd2
              refine wg_seq ?_
              refine wg_seq ?_
              refine wg_region ?_
              refine wo_v rfl (val_move (v := (.int .i64 x189)) rfl) ?_
              refine wo_v rfl (val_fieldB fd27_0 rfl) ?_
              refine wo_v rfl (val_loadB (i := 0) ag3 rfl rfl rfl) ?_
              refine wo_v rfl (val_lss rfl rfl) ?_
              refine wo_nil ?_
              refine wg_cond rfl (fun e192 => ?_) (fun e192 => ?_)
              · replace hd2 := sel_t e192 hd2; clear e192
                refine wg_skip ?_
                refine wg_seq ?_
                refine wg_block ?_
                refine wg_seq ?_
                refine wg_region ?_
                refine wo_v rfl (val_fieldB fd27_2 rfl) ?_
                refine wo_v rfl (val_loadB (i := 0) ag25 rfl rfl rfl) ?_
                refine wo_v rfl (val_move (v := (.int .i64 x157)) rfl) ?_
                have g193 := (gd_some hd2).1; replace hd2 := (gd_some hd2).2
                refine wo_indexR (i := x157.toNat) rfl sl25 rfl (sl_s (h16.mono (((((((le22.trans le56).trans le64).trans le72).trans le82).trans le159).trans le167).trans le191))) (idx_nonneg rfl g193.1) (okI_lt g193) fun v194 h195 => ?_
                refine wo_loadR rfl ty50 rfl h195 fun v196 h197 => ?_
                refine wo_v rfl (val_move (v := (.int .i64 x189)) rfl) ?_
                have g198 := (gd_some hd2).1; replace hd2 := (gd_some hd2).2
                refine wo_indexR (i := x189.toNat) rfl sl50 rfl (sl_s h197) (idx_nonneg rfl g198.1) (okI_lt g198) fun v199 h200 => ?_
                refine wo_fieldR rfl fd49_0 pt_Edge0 rfl h200 fun v201 h202 => ?_
                refine wo_loadR rfl ty3 rfl h202 fun v203 h204 => ?_
                obtain rfl := vrep_int.1 h204
                refine wo_v rfl (val_assign (v := (.int .i64 ((ix (ix y7.rows x157) x189).to))) rfl) ?_
                refine wo_nil ?_
                refine wg_seq ?_
                have g205 := (gd_some hd2).1; replace hd2 := (gd_some hd2).2
                have g206 := (gd_some hd2).1; replace hd2 := (gd_some hd2).2
                have g207 := (gd_some hd2).1; replace hd2 := (gd_some hd2).2
                have g208 := (gd_some hd2).1; replace hd2 := (gd_some hd2).2
                have g209 := (gd_some hd2).1; replace hd2 := (gd_some hd2).2
                refine wg_drawn 28 [] [phX v65, phX (.int .i64 x157), phP (tInt .i64) (ix y59.1 x157), phX (.int .i64 (ix y59.1 x157)), phX (.bool (decide (0 ≤ (ix y59.1 x157)))), phX (.bool (decide (0 ≤ (ix y59.1 x157)))), phG (true && ((decide (0 ≤ (ix y59.1 x157))) == true)) (phX (.int .i64 ((ix (ix y7.rows x157) x189).to))), phG (true && ((decide (0 ≤ (ix y59.1 x157))) == true)) (phX (.bool (decide (0 ≤ ((ix (ix y7.rows x157) x189).to))))), phX (.bool ((decide (0 ≤ (ix y59.1 x157))) && (decide (0 ≤ ((ix (ix y7.rows x157) x189).to))))), phX (.bool ((decide (0 ≤ (ix y59.1 x157))) && (decide (0 ≤ ((ix (ix y7.rows x157) x189).to))))), phG (true && (((decide (0 ≤ (ix y59.1 x157))) && (decide (0 ≤ ((ix (ix y7.rows x157) x189).to)))) == true)) (phX v65), phG (true && (((decide (0 ≤ (ix y59.1 x157))) && (decide (0 ≤ ((ix (ix y7.rows x157) x189).to)))) == true)) (phX (.int .i64 ((ix (ix y7.rows x157) x189).to))), phG (true && (((decide (0 ≤ (ix y59.1 x157))) && (decide (0 ≤ ((ix (ix y7.rows x157) x189).to)))) == true)) (phP (tInt .i64) (ix y59.1 ((ix (ix y7.rows x157) x189).to))), phG (true && (((decide (0 ≤ (ix y59.1 x157))) && (decide (0 ≤ ((ix (ix y7.rows x157) x189).to)))) == true)) (phX (.int .i64 (ix y59.1 ((ix (ix y7.rows x157) x189).to)))), phG (true && (((decide (0 ≤ (ix y59.1 x157))) && (decide (0 ≤ ((ix (ix y7.rows x157) x189).to)))) == true)) (phX (.bool (decide ((ix y59.1 ((ix (ix y7.rows x157) x189).to)) < 0)))), phG (true && (((decide (0 ≤ (ix y59.1 x157))) && (decide (0 ≤ ((ix (ix y7.rows x157) x189).to)))) == true)) (phX (.bool (decide ((ix y59.1 ((ix (ix y7.rows x157) x189).to)) < 0)))), phG ((true && (((decide (0 ≤ (ix y59.1 x157))) && (decide (0 ≤ ((ix (ix y7.rows x157) x189).to)))) == true)) && ((decide ((ix y59.1 ((ix (ix y7.rows x157) x189).to)) < 0)) == false)) (phX v65), phG ((true && (((decide (0 ≤ (ix y59.1 x157))) && (decide (0 ≤ ((ix (ix y7.rows x157) x189).to)))) == true)) && ((decide ((ix y59.1 ((ix (ix y7.rows x157) x189).to)) < 0)) == false)) (phX (.int .i64 ((ix (ix y7.rows x157) x189).to))), phG ((true && (((decide (0 ≤ (ix y59.1 x157))) && (decide (0 ≤ ((ix (ix y7.rows x157) x189).to)))) == true)) && ((decide ((ix y59.1 ((ix (ix y7.rows x157) x189).to)) < 0)) == false)) (phP (tInt .i64) (ix y59.1 ((ix (ix y7.rows x157) x189).to))), phG ((true && (((decide (0 ≤ (ix y59.1 x157))) && (decide (0 ≤ ((ix (ix y7.rows x157) x189).to)))) == true)) && ((decide ((ix y59.1 ((ix (ix y7.rows x157) x189).to)) < 0)) == false)) (phX (.int .i64 (ix y59.1 ((ix (ix y7.rows x157) x189).to)))), phG ((true && (((decide (0 ≤ (ix y59.1 x157))) && (decide (0 ≤ ((ix (ix y7.rows x157) x189).to)))) == true)) && ((decide ((ix y59.1 ((ix (ix y7.rows x157) x189).to)) < 0)) == false)) (phX v65), phG ((true && (((decide (0 ≤ (ix y59.1 x157))) && (decide (0 ≤ ((ix (ix y7.rows x157) x189).to)))) == true)) && ((decide ((ix y59.1 ((ix (ix y7.rows x157) x189).to)) < 0)) == false)) (phX (.int .i64 x157)), phG ((true && (((decide (0 ≤ (ix y59.1 x157))) && (decide (0 ≤ ((ix (ix y7.rows x157) x189).to)))) == true)) && ((decide ((ix y59.1 ((ix (ix y7.rows x157) x189).to)) < 0)) == false)) (phP (tInt .i64) (ix y59.1 x157)), phG ((true && (((decide (0 ≤ (ix y59.1 x157))) && (decide (0 ≤ ((ix (ix y7.rows x157) x189).to)))) == true)) && ((decide ((ix y59.1 ((ix (ix y7.rows x157) x189).to)) < 0)) == false)) (phX (.int .i64 (ix y59.1 x157))), phG ((true && (((decide (0 ≤ (ix y59.1 x157))) && (decide (0 ≤ ((ix (ix y7.rows x157) x189).to)))) == true)) && ((decide ((ix y59.1 ((ix (ix y7.rows x157) x189).to)) < 0)) == false)) (phX (.int .i64 ((ix y59.1 x157) + 1))), phG ((true && (((decide (0 ≤ (ix y59.1 x157))) && (decide (0 ≤ ((ix (ix y7.rows x157) x189).to)))) == true)) && ((decide ((ix y59.1 ((ix (ix y7.rows x157) x189).to)) < 0)) == false)) (phX (.bool (decide (((ix y59.1 x157) + 1) < (ix y59.1 ((ix (ix y7.rows x157) x189).to)))))), phG (true && (((decide (0 ≤ (ix y59.1 x157))) && (decide (0 ≤ ((ix (ix y7.rows x157) x189).to)))) == true)) (phX (.bool ((decide ((ix y59.1 ((ix (ix y7.rows x157) x189).to)) < 0)) || (decide (((ix y59.1 x157) + 1) < (ix y59.1 ((ix (ix y7.rows x157) x189).to))))))), phX (.bool (((decide (0 ≤ (ix y59.1 x157))) && (decide (0 ≤ ((ix (ix y7.rows x157) x189).to)))) && ((decide ((ix y59.1 ((ix (ix y7.rows x157) x189).to)) < 0)) || (decide (((ix y59.1 x157) + 1) < (ix y59.1 ((ix (ix y7.rows x157) x189).to)))))))] mixed (by kernel_rfl) (monoOk_of ⟨mono_x, mono_x, mono_p, mono_x, mono_x, mono_x, (mono_g mono_x), (mono_g mono_x), mono_x, mono_x, (mono_g mono_x), (mono_g mono_x), (mono_g mono_p), (mono_g mono_x), (mono_g mono_x), (mono_g mono_x), (mono_g mono_x), (mono_g mono_x), (mono_g mono_p), (mono_g mono_x), (mono_g mono_x), (mono_g mono_x), (mono_g mono_p), (mono_g mono_x), (mono_g mono_x), (mono_g mono_x), (mono_g mono_x), mono_x, trivial⟩) ⟨?_, ?_, ?_, ?_, ?_, ?_, ?_, ?_, ?_, ?_, ?_, ?_, ?_, ?_, ?_, ?_, ?_, ?_, ?_, ?_, ?_, ?_, ?_, ?_, ?_, ?_, ?_, ?_, trivial⟩ fun R210 le211 => ?_
                · intro l R0q hle ha hd
                  have a13 : l 13 = v65 := ha 13 rfl
                  exact gstep_plain rfl rfl rfl (ph_val (val_move a13))
                · intro l R1q hle ha hd
                  have a17 : l 17 = (.int .i64 x157) := ha 17 rfl
                  exact gstep_plain rfl rfl rfl (ph_val (val_move a17))
                · intro l R2q hle ha hd
                  obtain ⟨d0, d1, _⟩ := hd
                  have f125 : l 125 = v65 := d0 rfl
                  have f126 : l 126 = (.int .i64 x157) := d1 rfl
                  exact gstep_plain rfl rfl rfl (ph_indexR (i := x157.toNat) sl36 f125 (sl_s ((h66.mono ((((le72.trans le82).trans le159).trans le167).trans le191)).mono hle)) (idx_nonneg f126 g205.1) (okI_lt g205))
                · intro l R3q hle ha hd
                  obtain ⟨d0, _⟩ := hd
                  have f127 : phP (tInt .i64) (ix y59.1 x157) (l 127) R3q := d0 rfl
                  exact gstep_plain rfl rfl rfl (ph_exact (ph_loadR ty3 rfl f127) (fun _ _ h => vrep_int.1 h))
                · intro l R4q hle ha hd
                  obtain ⟨d0, _⟩ := hd
                  have f128 : l 128 = (.int .i64 (ix y59.1 x157)) := d0 rfl
                  exact gstep_plain rfl rfl rfl (ph_val (val_geq f128 rfl))
                · intro l R5q hle ha hd
                  obtain ⟨d0, _⟩ := hd
                  have f129 : l 129 = (.bool (decide (0 ≤ (ix y59.1 x157)))) := d0 rfl
                  exact gstep_plain rfl rfl rfl (ph_val (val_move f129))
                · intro l R6q hle ha hd
                  obtain ⟨d0, _⟩ := hd
                  have a20 : l 20 = (.int .i64 ((ix (ix y7.rows x157) x189).to)) := ha 20 rfl
                  exact gstep_guard (Gj := true) (Bj := decide (0 ≤ (ix y59.1 x157))) rfl rfl rfl (gtrue (d0 rfl)) rfl (fun hG hB => ph_val (val_move a20))
                · intro l R7q hle ha hd
                  obtain ⟨d0, d1, _⟩ := hd
                  have f131g : phG (true && ((decide (0 ≤ (ix y59.1 x157))) == true)) (phX (.int .i64 ((ix (ix y7.rows x157) x189).to))) (l 131) R7q := d0 rfl
                  exact gstep_guard (Gj := true) (Bj := decide (0 ≤ (ix y59.1 x157))) rfl rfl rfl (gtrue (d1 rfl)) rfl (fun hG hB => ph_val (val_geq (show l 131 = (.int .i64 ((ix (ix y7.rows x157) x189).to)) from f131g.1 (gandT rfl hB)) rfl))
                · intro l R8q hle ha hd
                  obtain ⟨d0, d1, _⟩ := hd
                  have f130 : l 130 = (.bool (decide (0 ≤ (ix y59.1 x157)))) := d0 rfl
                  have f132g : phG (true && ((decide (0 ≤ (ix y59.1 x157))) == true)) (phX (.bool (decide (0 ≤ ((ix (ix y7.rows x157) x189).to))))) (l 132) R8q := d1 rfl
                  exact gstep_plain rfl rfl rfl (ph_val (val_and f130 (fun hb => (show l 132 = (.bool (decide (0 ≤ ((ix (ix y7.rows x157) x189).to)))) from f132g.1 (gandT rfl hb))) rfl))
                · intro l R9q hle ha hd
                  obtain ⟨d0, d1, _⟩ := hd
                  have f133 : l 133 = (.bool ((decide (0 ≤ (ix y59.1 x157))) && (decide (0 ≤ ((ix (ix y7.rows x157) x189).to))))) := d0 rfl
                  exact gstep_plain rfl rfl rfl (ph_val (val_move f133))
                · intro l R10q hle ha hd
                  obtain ⟨d0, _⟩ := hd
                  have a13 : l 13 = v65 := ha 13 rfl
                  exact gstep_guard (Gj := true) (Bj := (decide (0 ≤ (ix y59.1 x157))) && (decide (0 ≤ ((ix (ix y7.rows x157) x189).to)))) rfl rfl rfl (gtrue (d0 rfl)) rfl (fun hG hB => ph_val (val_move a13))
                · intro l R11q hle ha hd
                  obtain ⟨d0, _⟩ := hd
                  have a20 : l 20 = (.int .i64 ((ix (ix y7.rows x157) x189).to)) := ha 20 rfl
                  exact gstep_guard (Gj := true) (Bj := (decide (0 ≤ (ix y59.1 x157))) && (decide (0 ≤ ((ix (ix y7.rows x157) x189).to)))) rfl rfl rfl (gtrue (d0 rfl)) rfl (fun hG hB => ph_val (val_move a20))
                · intro l R12q hle ha hd
                  obtain ⟨d0, d1, d2, _⟩ := hd
                  have f135g : phG (true && (((decide (0 ≤ (ix y59.1 x157))) && (decide (0 ≤ ((ix (ix y7.rows x157) x189).to)))) == true)) (phX v65) (l 135) R12q := d0 rfl
                  have f136g : phG (true && (((decide (0 ≤ (ix y59.1 x157))) && (decide (0 ≤ ((ix (ix y7.rows x157) x189).to)))) == true)) (phX (.int .i64 ((ix (ix y7.rows x157) x189).to))) (l 136) R12q := d1 rfl
                  exact gstep_guard (Gj := true) (Bj := (decide (0 ≤ (ix y59.1 x157))) && (decide (0 ≤ ((ix (ix y7.rows x157) x189).to)))) rfl rfl rfl (gtrue (d2 rfl)) rfl (fun hG hB => ph_indexR (i := ((ix (ix y7.rows x157) x189).to).toNat) sl36 (show l 135 = v65 from f135g.1 (gandT rfl hB)) (sl_s ((h66.mono ((((le72.trans le82).trans le159).trans le167).trans le191)).mono hle)) (idx_nonneg (show l 136 = (.int .i64 ((ix (ix y7.rows x157) x189).to)) from f136g.1 (gandT rfl hB)) (g206 (gandT hG hB)).1) (okI_lt (g206 (gandT hG hB))))
                · intro l R13q hle ha hd
                  obtain ⟨d0, d1, _⟩ := hd
                  have f137g : phG (true && (((decide (0 ≤ (ix y59.1 x157))) && (decide (0 ≤ ((ix (ix y7.rows x157) x189).to)))) == true)) (phP (tInt .i64) (ix y59.1 ((ix (ix y7.rows x157) x189).to))) (l 137) R13q := d0 rfl
                  exact gstep_guard (Gj := true) (Bj := (decide (0 ≤ (ix y59.1 x157))) && (decide (0 ≤ ((ix (ix y7.rows x157) x189).to)))) rfl rfl rfl (gtrue (d1 rfl)) rfl (fun hG hB => ph_exact (ph_loadR ty3 rfl (f137g.1 (gandT rfl hB))) (fun _ _ h => vrep_int.1 h))
                · intro l R14q hle ha hd
                  obtain ⟨d0, d1, _⟩ := hd
                  have f138g : phG (true && (((decide (0 ≤ (ix y59.1 x157))) && (decide (0 ≤ ((ix (ix y7.rows x157) x189).to)))) == true)) (phX (.int .i64 (ix y59.1 ((ix (ix y7.rows x157) x189).to)))) (l 138) R14q := d0 rfl
                  exact gstep_guard (Gj := true) (Bj := (decide (0 ≤ (ix y59.1 x157))) && (decide (0 ≤ ((ix (ix y7.rows x157) x189).to)))) rfl rfl rfl (gtrue (d1 rfl)) rfl (fun hG hB => ph_val (val_lss (show l 138 = (.int .i64 (ix y59.1 ((ix (ix y7.rows x157) x189).to))) from f138g.1 (gandT rfl hB)) rfl))
                · intro l R15q hle ha hd
                  obtain ⟨d0, d1, d2, _⟩ := hd
                  have f139g : phG (true && (((decide (0 ≤ (ix y59.1 x157))) && (decide (0 ≤ ((ix (ix y7.rows x157) x189).to)))) == true)) (phX (.bool (decide ((ix y59.1 ((ix (ix y7.rows x157) x189).to)) < 0)))) (l 139) R15q := d0 rfl
                  exact gstep_guard (Gj := true) (Bj := (decide (0 ≤ (ix y59.1 x157))) && (decide (0 ≤ ((ix (ix y7.rows x157) x189).to)))) rfl rfl rfl (gtrue (d1 rfl)) rfl (fun hG hB => ph_val (val_move (show l 139 = (.bool (decide ((ix y59.1 ((ix (ix y7.rows x157) x189).to)) < 0))) from f139g.1 (gandT rfl hB))))
                · intro l R16q hle ha hd
                  obtain ⟨d0, _⟩ := hd
                  have a13 : l 13 = v65 := ha 13 rfl
                  exact gstep_guard (Gj := (true && (((decide (0 ≤ (ix y59.1 x157))) && (decide (0 ≤ ((ix (ix y7.rows x157) x189).to)))) == true))) (Bj := decide ((ix y59.1 ((ix (ix y7.rows x157) x189).to)) < 0)) rfl rfl rfl (d0 rfl) rfl (fun hG hB => ph_val (val_move a13))
                · intro l R17q hle ha hd
                  obtain ⟨d0, _⟩ := hd
                  have a20 : l 20 = (.int .i64 ((ix (ix y7.rows x157) x189).to)) := ha 20 rfl
                  exact gstep_guard (Gj := (true && (((decide (0 ≤ (ix y59.1 x157))) && (decide (0 ≤ ((ix (ix y7.rows x157) x189).to)))) == true))) (Bj := decide ((ix y59.1 ((ix (ix y7.rows x157) x189).to)) < 0)) rfl rfl rfl (d0 rfl) rfl (fun hG hB => ph_val (val_move a20))
                · intro l R18q hle ha hd
                  obtain ⟨d0, d1, d2, _⟩ := hd
                  have f141g : phG ((true && (((decide (0 ≤ (ix y59.1 x157))) && (decide (0 ≤ ((ix (ix y7.rows x157) x189).to)))) == true)) && ((decide ((ix y59.1 ((ix (ix y7.rows x157) x189).to)) < 0)) == false)) (phX v65) (l 141) R18q := d0 rfl
                  have f142g : phG ((true && (((decide (0 ≤ (ix y59.1 x157))) && (decide (0 ≤ ((ix (ix y7.rows x157) x189).to)))) == true)) && ((decide ((ix y59.1 ((ix (ix y7.rows x157) x189).to)) < 0)) == false)) (phX (.int .i64 ((ix (ix y7.rows x157) x189).to))) (l 142) R18q := d1 rfl
                  exact gstep_guard (Gj := (true && (((decide (0 ≤ (ix y59.1 x157))) && (decide (0 ≤ ((ix (ix y7.rows x157) x189).to)))) == true))) (Bj := decide ((ix y59.1 ((ix (ix y7.rows x157) x189).to)) < 0)) rfl rfl rfl (d2 rfl) rfl (fun hG hB => ph_indexR (i := ((ix (ix y7.rows x157) x189).to).toNat) sl36 (show l 141 = v65 from f141g.1 (gandT hG hB)) (sl_s ((h66.mono ((((le72.trans le82).trans le159).trans le167).trans le191)).mono hle)) (idx_nonneg (show l 142 = (.int .i64 ((ix (ix y7.rows x157) x189).to)) from f142g.1 (gandT hG hB)) (g207 (gandT hG hB)).1) (okI_lt (g207 (gandT hG hB))))
                · intro l R19q hle ha hd
                  obtain ⟨d0, d1, _⟩ := hd
                  have f143g : phG ((true && (((decide (0 ≤ (ix y59.1 x157))) && (decide (0 ≤ ((ix (ix y7.rows x157) x189).to)))) == true)) && ((decide ((ix y59.1 ((ix (ix y7.rows x157) x189).to)) < 0)) == false)) (phP (tInt .i64) (ix y59.1 ((ix (ix y7.rows x157) x189).to))) (l 143) R19q := d0 rfl
                  exact gstep_guard (Gj := (true && (((decide (0 ≤ (ix y59.1 x157))) && (decide (0 ≤ ((ix (ix y7.rows x157) x189).to)))) == true))) (Bj := decide ((ix y59.1 ((ix (ix y7.rows x157) x189).to)) < 0)) rfl rfl rfl (d1 rfl) rfl (fun hG hB => ph_exact (ph_loadR ty3 rfl (f143g.1 (gandT hG hB))) (fun _ _ h => vrep_int.1 h))
                · intro l R20q hle ha hd
                  obtain ⟨d0, _⟩ := hd
                  have a13 : l 13 = v65 := ha 13 rfl
                  exact gstep_guard (Gj := (true && (((decide (0 ≤ (ix y59.1 x157))) && (decide (0 ≤ ((ix (ix y7.rows x157) x189).to)))) == true))) (Bj := decide ((ix y59.1 ((ix (ix y7.rows x157) x189).to)) < 0)) rfl rfl rfl (d0 rfl) rfl (fun hG hB => ph_val (val_move a13))
                · intro l R21q hle ha hd
                  obtain ⟨d0, _⟩ := hd
                  have a17 : l 17 = (.int .i64 x157) := ha 17 rfl
                  exact gstep_guard (Gj := (true && (((decide (0 ≤ (ix y59.1 x157))) && (decide (0 ≤ ((ix (ix y7.rows x157) x189).to)))) == true))) (Bj := decide ((ix y59.1 ((ix (ix y7.rows x157) x189).to)) < 0)) rfl rfl rfl (d0 rfl) rfl (fun hG hB => ph_val (val_move a17))
                · intro l R22q hle ha hd
                  obtain ⟨d0, d1, d2, _⟩ := hd
                  have f145g : phG ((true && (((decide (0 ≤ (ix y59.1 x157))) && (decide (0 ≤ ((ix (ix y7.rows x157) x189).to)))) == true)) && ((decide ((ix y59.1 ((ix (ix y7.rows x157) x189).to)) < 0)) == false)) (phX v65) (l 145) R22q := d0 rfl
                  have f146g : phG ((true && (((decide (0 ≤ (ix y59.1 x157))) && (decide (0 ≤ ((ix (ix y7.rows x157) x189).to)))) == true)) && ((decide ((ix y59.1 ((ix (ix y7.rows x157) x189).to)) < 0)) == false)) (phX (.int .i64 x157)) (l 146) R22q := d1 rfl
                  exact gstep_guard (Gj := (true && (((decide (0 ≤ (ix y59.1 x157))) && (decide (0 ≤ ((ix (ix y7.rows x157) x189).to)))) == true))) (Bj := decide ((ix y59.1 ((ix (ix y7.rows x157) x189).to)) < 0)) rfl rfl rfl (d2 rfl) rfl (fun hG hB => ph_indexR (i := x157.toNat) sl36 (show l 145 = v65 from f145g.1 (gandT hG hB)) (sl_s ((h66.mono ((((le72.trans le82).trans le159).trans le167).trans le191)).mono hle)) (idx_nonneg (show l 146 = (.int .i64 x157) from f146g.1 (gandT hG hB)) (g208 (gandT hG hB)).1) (okI_lt (g208 (gandT hG hB))))
                · intro l R23q hle ha hd
                  obtain ⟨d0, d1, _⟩ := hd
                  have f147g : phG ((true && (((decide (0 ≤ (ix y59.1 x157))) && (decide (0 ≤ ((ix (ix y7.rows x157) x189).to)))) == true)) && ((decide ((ix y59.1 ((ix (ix y7.rows x157) x189).to)) < 0)) == false)) (phP (tInt .i64) (ix y59.1 x157)) (l 147) R23q := d0 rfl
                  exact gstep_guard (Gj := (true && (((decide (0 ≤ (ix y59.1 x157))) && (decide (0 ≤ ((ix (ix y7.rows x157) x189).to)))) == true))) (Bj := decide ((ix y59.1 ((ix (ix y7.rows x157) x189).to)) < 0)) rfl rfl rfl (d1 rfl) rfl (fun hG hB => ph_exact (ph_loadR ty3 rfl (f147g.1 (gandT hG hB))) (fun _ _ h => vrep_int.1 h))
                · intro l R24q hle ha hd
                  obtain ⟨d0, d1, _⟩ := hd
                  have f148g : phG ((true && (((decide (0 ≤ (ix y59.1 x157))) && (decide (0 ≤ ((ix (ix y7.rows x157) x189).to)))) == true)) && ((decide ((ix y59.1 ((ix (ix y7.rows x157) x189).to)) < 0)) == false)) (phX (.int .i64 (ix y59.1 x157))) (l 148) R24q := d0 rfl
                  exact gstep_guard (Gj := (true && (((decide (0 ≤ (ix y59.1 x157))) && (decide (0 ≤ ((ix (ix y7.rows x157) x189).to)))) == true))) (Bj := decide ((ix y59.1 ((ix (ix y7.rows x157) x189).to)) < 0)) rfl rfl rfl (d1 rfl) rfl (fun hG hB => ph_val (val_add (show l 148 = (.int .i64 (ix y59.1 x157)) from f148g.1 (gandT hG hB)) rfl (g209 (gandT hG hB))))
                · intro l R25q hle ha hd
                  obtain ⟨d0, d1, d2, _⟩ := hd
                  have f144g : phG ((true && (((decide (0 ≤ (ix y59.1 x157))) && (decide (0 ≤ ((ix (ix y7.rows x157) x189).to)))) == true)) && ((decide ((ix y59.1 ((ix (ix y7.rows x157) x189).to)) < 0)) == false)) (phX (.int .i64 (ix y59.1 ((ix (ix y7.rows x157) x189).to)))) (l 144) R25q := d0 rfl
                  have f149g : phG ((true && (((decide (0 ≤ (ix y59.1 x157))) && (decide (0 ≤ ((ix (ix y7.rows x157) x189).to)))) == true)) && ((decide ((ix y59.1 ((ix (ix y7.rows x157) x189).to)) < 0)) == false)) (phX (.int .i64 ((ix y59.1 x157) + 1))) (l 149) R25q := d1 rfl
                  exact gstep_guard (Gj := (true && (((decide (0 ≤ (ix y59.1 x157))) && (decide (0 ≤ ((ix (ix y7.rows x157) x189).to)))) == true))) (Bj := decide ((ix y59.1 ((ix (ix y7.rows x157) x189).to)) < 0)) rfl rfl rfl (d2 rfl) rfl (fun hG hB => ph_val (val_gtr (show l 144 = (.int .i64 (ix y59.1 ((ix (ix y7.rows x157) x189).to))) from f144g.1 (gandT hG hB)) (show l 149 = (.int .i64 ((ix y59.1 x157) + 1)) from f149g.1 (gandT hG hB))))
                · intro l R26q hle ha hd
                  obtain ⟨d0, d1, d2, _⟩ := hd
                  have f140g : phG (true && (((decide (0 ≤ (ix y59.1 x157))) && (decide (0 ≤ ((ix (ix y7.rows x157) x189).to)))) == true)) (phX (.bool (decide ((ix y59.1 ((ix (ix y7.rows x157) x189).to)) < 0)))) (l 140) R26q := d0 rfl
                  have f150g : phG ((true && (((decide (0 ≤ (ix y59.1 x157))) && (decide (0 ≤ ((ix (ix y7.rows x157) x189).to)))) == true)) && ((decide ((ix y59.1 ((ix (ix y7.rows x157) x189).to)) < 0)) == false)) (phX (.bool (decide (((ix y59.1 x157) + 1) < (ix y59.1 ((ix (ix y7.rows x157) x189).to)))))) (l 150) R26q := d1 rfl
                  exact gstep_guard (Gj := true) (Bj := (decide (0 ≤ (ix y59.1 x157))) && (decide (0 ≤ ((ix (ix y7.rows x157) x189).to)))) rfl rfl rfl (gtrue (d2 rfl)) rfl (fun hG hB => ph_val (val_or (show l 140 = (.bool (decide ((ix y59.1 ((ix (ix y7.rows x157) x189).to)) < 0))) from f140g.1 (gandT rfl hB)) rfl (fun hb => (show l 150 = (.bool (decide (((ix y59.1 x157) + 1) < (ix y59.1 ((ix (ix y7.rows x157) x189).to))))) from f150g.1 (gandT (gandT rfl hB) hb)))))
                · intro l R27q hle ha hd
                  obtain ⟨d0, d1, _⟩ := hd
                  have f134 : l 134 = (.bool ((decide (0 ≤ (ix y59.1 x157))) && (decide (0 ≤ ((ix (ix y7.rows x157) x189).to))))) := d0 rfl
                  have f151g : phG (true && (((decide (0 ≤ (ix y59.1 x157))) && (decide (0 ≤ ((ix (ix y7.rows x157) x189).to)))) == true)) (phX (.bool ((decide ((ix y59.1 ((ix (ix y7.rows x157) x189).to)) < 0)) || (decide (((ix y59.1 x157) + 1) < (ix y59.1 ((ix (ix y7.rows x157) x189).to))))))) (l 151) R27q := d1 rfl
                  exact gstep_plain rfl rfl rfl (ph_val (val_and f134 (fun hb => (show l 151 = (.bool ((decide ((ix y59.1 ((ix (ix y7.rows x157) x189).to)) < 0)) || (decide (((ix y59.1 x157) + 1) < (ix y59.1 ((ix (ix y7.rows x157) x189).to)))))) from f151g.1 (gandT rfl hb))) rfl))
                intro v212 h213
                intro v214 h215
                intro v216 h217
                intro v218 h219
                intro v220 h221
                intro v222 h223
                intro v224 h225
                intro v226 h227
                intro v228 h229
                intro v230 h231
                intro v232 h233
                intro v234 h235
                intro v236 h237
                intro v238 h239
                intro v240 h241
                intro v242 h243
                intro v244 h245
                intro v246 h247
                intro v248 h249
                intro v250 h251
                intro v252 h253
                intro v254 h255
                intro v256 h257
                intro v258 h259
                intro v260 h261
                intro v262 h263
                intro v264 h265
                intro v266 h267
                obtain rfl := Eq.symm h213
                obtain rfl := Eq.symm h215
                obtain rfl := Eq.symm h219
                obtain rfl := Eq.symm h221
                obtain rfl := Eq.symm h223
                obtain rfl := Eq.symm h229
                obtain rfl := Eq.symm h231
                obtain rfl := Eq.symm h267
                refine wo_nil ?_
                refine wg_cond rfl (fun e268 => ?_) (fun e268 => ?_)
                · replace hd2 := sel_t e268 hd2; clear e268
                  refine wg_seq ?_
                  refine wg_region ?_
                  refine wo_v rfl (val_assign (v := (.bool false)) rfl) ?_
                  refine wo_nil ?_
                  refine wg_ret ?_
                  replace hd1 := on_rt hd2 hd1
                  replace hd0 := on_rt hd1 hd0
                  obtain rfl := Option.some.inj hd0
                  refine body_end (D := []) (J := [box b13 [(.int .i64 y7.inputs), (.int .i64 y7.outputs), v15] 27]) (rs := [.tmp 6]) (vs := [(.bool false)]) ((((((((((le4.trans le12).trans le22).trans le56).trans le64).trans le72).trans le82).trans le159).trans le167).trans le191).trans le211) rfl rfl ⟨rfl, trivial⟩ ?_
                  exact ⟨rfl, rfl⟩
                · replace hd2 := sel_f e268 hd2; clear e268
                  refine wg_skip ?_
                  refine wg_region ?_
                  refine wo_v rfl (val_move (v := (.int .i64 x189)) rfl) ?_
                  have g269 := (gd_some hd2).1; replace hd2 := (gd_some hd2).2
                  refine wo_v rfl (val_add rfl rfl g269) ?_
                  refine wo_v rfl (val_assign (v := (.int .i64 (x189 + 1))) rfl) ?_
                  refine wo_nil ?_
                  exact ⟨(fun _ => rfl), le211, (by repeat (first | exact off_self | refine off_upd rfl ?_ | refine off_setl rfl ?_ | refine off_mask_sub rfl ?_)), (F188, x189 + 1), Nat.lt_succ_self _, ⟨rfl, trivial⟩, ⟨[], List.Perm.refl _⟩, hd2, trivial⟩
              · replace hd2 := sel_f e192 hd2; clear e192
                refine wg_exit ?_
                exact ⟨(fun _ => rfl), (le167.trans le191), (by repeat (first | exact off_self | refine off_upd rfl ?_ | refine off_setl rfl ?_ | refine off_mask_sub rfl ?_)), (), trivial, ⟨[], List.Perm.refl _⟩, (Option.some.inj hd2).symm, trivial⟩
        ·
          rintro o161 j273 D274 R163 hD275 le164 ⟨rfl, _⟩
          obtain rfl := hD275 rfl
          replace hd1 := on_go hd1
          refine wg_region ?_
          refine wo_v rfl (val_move (v := (.int .i64 x157)) rfl) ?_
          have g276 := (gd_some hd1).1; replace hd1 := (gd_some hd1).2
          refine wo_v rfl (val_add rfl rfl g276) ?_
          refine wo_v rfl (val_assign (v := (.int .i64 (x157 + 1))) rfl) ?_
          refine wo_nil ?_
          exact ⟨(fun _ => rfl), le164, (by repeat (first | exact off_self | refine off_upd rfl ?_ | refine off_setl rfl ?_ | refine off_mask_sub rfl ?_)), (F156, x157 + 1), Nat.lt_succ_self _, ⟨rfl, trivial⟩, ⟨[], List.Perm.refl _⟩, hd1, trivial⟩
      · replace hd1 := sel_f e160 hd1; clear e160
        refine wg_exit ?_
        exact ⟨(fun _ => rfl), le159, (by repeat (first | exact off_self | refine off_upd rfl ?_ | refine off_setl rfl ?_ | refine off_mask_sub rfl ?_)), (), trivial, ⟨[box b13 [(.int .i64 y7.inputs), (.int .i64 y7.outputs), v15] 27], (List.Perm.refl _)⟩, (Option.some.inj hd1).symm, trivial⟩
    ·
      rintro o152 j280 D281 R154 hD282 le155 ⟨rfl, _⟩
      obtain rfl := hD282 rfl
      replace hd0 := on_go hd0
      refine wg_seq ?_
      refine wg_region ?_
      replace hd0 := bd_some hd0; obtain ⟨y283, c284, hd0⟩ := hd0
      refine wo_callP rfl en18 rfl (c_gauntletlaw06_lives  c284) fun v285 R287 le288 h286 => ?_
      obtain rfl := h286
      refine wo_v rfl (val_assign (v := (.bool y283)) rfl) ?_
      refine wo_nil ?_
      refine wg_ret ?_
      obtain rfl := Option.some.inj hd0
      refine body_end (D := []) (J := []) (rs := [.tmp 6]) (vs := [(.bool y283)]) ((((((((le4.trans le12).trans le22).trans le56).trans le64).trans le72).trans le82).trans le155).trans le288) rfl rfl ⟨rfl, trivial⟩ ?_
      exact ⟨rfl, rfl⟩
end GV
end Go.Proofs.Ytncblcdhmcmkmaa
