/- The walks of the functions; printed. -/
import Derived.Test.YtohjnbajgbdhhaaShWe
import Derived.Test.YtohjnbajgbdhhaaRows
namespace Go.Proofs.Ytohjnbajgbdhhaa
namespace GV
open Go.IntWalk
set_option linter.unusedVariables false
set_option linter.unusedSimpArgs false
set_option maxRecDepth 100000
set_option maxHeartbeats 2000000
theorem sz3 : ∀ w, (sizeOf 3).run Try.prog w = .ok 1 w := fun w => by kernel_rfl
theorem c_gauntletlaw04_MachinesSame {N : Nat} {R : RH} {x : MDat} {v_x : Value} (h_x : VRep (kMDat false) R v_x x) {y : MDat} {v_y : Value} (h_y : VRep (kMDat false) R v_y y) {raw : Mach} {v_raw : Value} (h_raw : VRep (kMach false false) R v_raw raw) {r : Bool} (hd0 : gauntletlaw04_MachinesSame N x y raw = some r) : CallP Try.prog 8 #[v_x, v_y, v_raw] R (fun v R' => v = (.bool r)) := by
  refine callP_of_wg (args := [v_x, v_y, v_raw]) Try.func8 rfl rfl fun A => ?_
  rw [gauntletlaw04_MachinesSame] at hd0
  refine wg_seq ?_
  refine wg_region ?_
  refine wo_boxR (T := (kMDat false)) rfl rfl h_x fun v1 R3 le4 h2 => ?_
  refine wo_boxR (T := (kMDat false)) rfl rfl (h_y.mono le4) fun v5 R7 le8 h6 => ?_
  refine wo_boxR (T := (kMach false false)) rfl rfl (h_raw.mono (le4.trans le8)) fun v9 R11 le12 h10 => ?_
  refine wo_v rfl (val_assign (v := (.bool false)) rfl) ?_
  refine wo_nil ?_
  refine wg_seq ?_
  refine wg_seq ?_
  refine wg_region ?_
  refine wo_loadR rfl ty27 rfl h10 fun v13 h14 => ?_
  replace hd0 := bd_some hd0; obtain ⟨y15, c16, hd0⟩ := hd0
  refine wo_callP rfl en29 rfl (c_gauntletlaw04_great h14 c16) fun v17 R19 le20 h18 => ?_
  obtain rfl := h18
  refine wo_v rfl (val_eql rfl rfl) ?_
  refine wo_nil ?_
  refine wg_cond rfl (fun e21 => ?_) (fun e21 => ?_)
  · replace hd0 := sel_t e21 hd0; clear e21
    refine wg_seq ?_
    refine wg_region ?_
    refine wo_v rfl (val_assign (v := (.bool true)) rfl) ?_
    refine wo_nil ?_
    refine wg_ret ?_
    obtain rfl := Option.some.inj hd0
    refine body_end (D := []) (J := []) (rs := [.tmp 6]) (vs := [(.bool true)]) (((le4.trans le8).trans le12).trans le20) rfl rfl ⟨rfl, trivial⟩ ?_
    exact ⟨rfl, rfl⟩
  · replace hd0 := sel_f e21 hd0; clear e21
    refine wg_skip ?_
    refine wg_seq ?_
    replace hd0 := bd_some hd0; obtain ⟨y22, c23, hd0⟩ := hd0
    replace hd0 := bd_some hd0; obtain ⟨y24, c25, hd0⟩ := hd0
    refine wg_drawn 6 [⟨4, [.int .i64 0, .int .i64 0, .slice none 0 0], 27⟩, ⟨5, [.int .i64 0, .int .i64 0, .slice none 0 0], 27⟩] [phR (kMDat false) x, phR (kMach false false) y22, phR (kMDat false) y, phR (kMach false false) y24, phB, phB] mixed (by kernel_rfl) (monoOk_of ⟨mono_r, mono_r, mono_r, mono_r, mono_b, mono_b, trivial⟩) ⟨?_, ?_, ?_, ?_, ?_, ?_, trivial⟩ fun R26 le27 => ?_
    · intro l R0q hle ha hd
      have a3 : l 3 = v1 := ha 3 rfl
      exact gstep_plain rfl rfl rfl (ph_loadR ty24 a3 ((h2.mono ((le8.trans le12).trans le20)).mono hle))
    · intro l R1q hle ha hd
      obtain ⟨d0, _⟩ := hd
      have f13 : phR (kMDat false) x (l 13) R1q := d0 rfl
      exact gstep_plain rfl rfl rfl (ph_callP en10 rfl (c_gauntletlaw04_M_Of f13 c23) (fun _ _ h => h))
    · intro l R2q hle ha hd
      have a4 : l 4 = v5 := ha 4 rfl
      exact gstep_plain rfl rfl rfl (ph_loadR ty24 a4 ((h6.mono (le12.trans le20)).mono hle))
    · intro l R3q hle ha hd
      obtain ⟨d0, d1, _⟩ := hd
      have f15 : phR (kMDat false) y (l 15) R3q := d0 rfl
      exact gstep_plain rfl rfl rfl (ph_callP en10 rfl (c_gauntletlaw04_M_Of f15 c25) (fun _ _ h => h))
    · intro l R4q hle ha hd
      exact gstep_new rfl rfl rfl rfl za27
    · intro l R5q hle ha hd
      exact gstep_new rfl rfl rfl rfl za27
    intro v28 h29
    intro v30 h31
    intro v32 h33
    intro v34 h35
    intro v36 h37
    intro v38 h39
    obtain ⟨b40, rfl⟩ := h37
    obtain ⟨b41, rfl⟩ := h39
    obtain ⟨v44, rfl, h45⟩ := cases_Mach h31
    refine wo_store (i := 0) (vs := [(.int .i64 y22.inputs), (.int .i64 y22.outputs), v44]) sz27 rfl rfl rfl rfl rfl rfl (one_cons rfl (one_cons rfl (one_cons (sl_one h45) one_nil))) ?_
    obtain ⟨v46, rfl, h47⟩ := cases_Mach h35
    refine wo_store (i := 1) (vs := [(.int .i64 y24.inputs), (.int .i64 y24.outputs), v46]) sz27 rfl rfl rfl rfl rfl rfl (one_cons rfl (one_cons rfl (one_cons (sl_one h47) one_nil))) ?_
    refine wo_nil ?_
    refine wg_seq ?_
    refine wg_seq ?_
    replace hd0 := bd_some hd0; obtain ⟨y48, c49, hd0⟩ := hd0
    replace hd0 := bd_some hd0; obtain ⟨y50, c51, hd0⟩ := hd0
    replace hd0 := bd_some hd0; obtain ⟨y52, c53, hd0⟩ := hd0
    replace hd0 := bd_some hd0; obtain ⟨y54, c55, hd0⟩ := hd0
    replace hd0 := bd_some hd0; obtain ⟨y56, c57, hd0⟩ := hd0
    refine wg_drawn 22 [] [phX (.agg #[(.int .i64 y22.inputs), (.int .i64 y22.outputs), v44]), phX (.agg #[(.int .i64 y24.inputs), (.int .i64 y24.outputs), v46]), phX (.bool y48), phX (.agg #[(.int .i64 y22.inputs), (.int .i64 y22.outputs), v44]), phX (.agg #[(.int .i64 y24.inputs), (.int .i64 y24.outputs), v46]), phX (.bool y50), phX (.bool (decide (y48 ≠ y50))), phX (.bool (decide (y48 ≠ y50))), phG (true && ((decide (y48 ≠ y50)) == false)) (phX (.agg #[(.int .i64 y24.inputs), (.int .i64 y24.outputs), v46])), phG (true && ((decide (y48 ≠ y50)) == false)) (phX (.agg #[(.int .i64 y22.inputs), (.int .i64 y22.outputs), v44])), phG (true && ((decide (y48 ≠ y50)) == false)) (phX (.bool (y52.getD default))), phG (true && ((decide (y48 ≠ y50)) == false)) (phX (.agg #[(.int .i64 y22.inputs), (.int .i64 y22.outputs), v44])), phG (true && ((decide (y48 ≠ y50)) == false)) (phX (.agg #[(.int .i64 y24.inputs), (.int .i64 y24.outputs), v46])), phG (true && ((decide (y48 ≠ y50)) == false)) (phX (.bool (y54.getD default))), phG (true && ((decide (y48 ≠ y50)) == false)) (phX (.bool (decide ((y52.getD default) ≠ (y54.getD default))))), phX (.bool ((decide (y48 ≠ y50)) || (decide ((y52.getD default) ≠ (y54.getD default))))), phX (.bool ((decide (y48 ≠ y50)) || (decide ((y52.getD default) ≠ (y54.getD default))))), phG (true && (((decide (y48 ≠ y50)) || (decide ((y52.getD default) ≠ (y54.getD default)))) == false)) (phX (.agg #[(.int .i64 y22.inputs), (.int .i64 y22.outputs), v44])), phG (true && (((decide (y48 ≠ y50)) || (decide ((y52.getD default) ≠ (y54.getD default)))) == false)) (phX (.agg #[(.int .i64 y22.inputs), (.int .i64 y22.outputs), v44])), phG (true && (((decide (y48 ≠ y50)) || (decide ((y52.getD default) ≠ (y54.getD default)))) == false)) (phX (.bool (y56.getD default))), phG (true && (((decide (y48 ≠ y50)) || (decide ((y52.getD default) ≠ (y54.getD default)))) == false)) (phX (.bool (!(y56.getD default)))), phX (.bool (((decide (y48 ≠ y50)) || (decide ((y52.getD default) ≠ (y54.getD default)))) || (!(y56.getD default))))] mixed (by kernel_rfl) (monoOk_of ⟨mono_x, mono_x, mono_x, mono_x, mono_x, mono_x, mono_x, mono_x, (mono_g mono_x), (mono_g mono_x), (mono_g mono_x), (mono_g mono_x), (mono_g mono_x), (mono_g mono_x), (mono_g mono_x), mono_x, mono_x, (mono_g mono_x), (mono_g mono_x), (mono_g mono_x), (mono_g mono_x), mono_x, trivial⟩) ⟨?_, ?_, ?_, ?_, ?_, ?_, ?_, ?_, ?_, ?_, ?_, ?_, ?_, ?_, ?_, ?_, ?_, ?_, ?_, ?_, ?_, ?_, trivial⟩ fun R58 le59 => ?_
    · intro l R0q hle ha hd
      have a7 : l 7 = (.pointer (some ⟨b40, 0, none⟩)) := ha 7 rfl
      exact gstep_plain rfl rfl rfl (ph_val (val_loadBA (i := 0) ag27 sz27 a7 rfl rfl rfl))
    · intro l R1q hle ha hd
      have a8 : l 8 = (.pointer (some ⟨b41, 0, none⟩)) := ha 8 rfl
      exact gstep_plain rfl rfl rfl (ph_val (val_loadBA (i := 1) ag27 sz27 a8 rfl rfl rfl))
    · intro l R2q hle ha hd
      obtain ⟨d0, d1, _⟩ := hd
      have f17 : l 17 = (.agg #[(.int .i64 y22.inputs), (.int .i64 y22.outputs), v44]) := d0 rfl
      have f18 : l 18 = (.agg #[(.int .i64 y24.inputs), (.int .i64 y24.outputs), v46]) := d1 rfl
      exact gstep_plain rfl rfl rfl (ph_callP en32 (by simp only [List.map, ev, f17, f18] <;> rfl) (c_machines_Same (⟨_, ⟨_, _, rfl, rfl, ⟨_, _, rfl, rfl, (rep_one rfl (h45.mono hle))⟩⟩, rfl⟩ : VRep (kMach false false) _ _ (⟨y22.inputs, y22.outputs, y22.rows⟩ : Mach)) (⟨_, ⟨_, _, rfl, rfl, ⟨_, _, rfl, rfl, (rep_one rfl (h47.mono hle))⟩⟩, rfl⟩ : VRep (kMach false false) _ _ (⟨y24.inputs, y24.outputs, y24.rows⟩ : Mach)) c49) (fun _ _ h => h))
    · intro l R3q hle ha hd
      have a7 : l 7 = (.pointer (some ⟨b40, 0, none⟩)) := ha 7 rfl
      exact gstep_plain rfl rfl rfl (ph_val (val_loadBA (i := 0) ag27 sz27 a7 rfl rfl rfl))
    · intro l R4q hle ha hd
      have a8 : l 8 = (.pointer (some ⟨b41, 0, none⟩)) := ha 8 rfl
      exact gstep_plain rfl rfl rfl (ph_val (val_loadBA (i := 1) ag27 sz27 a8 rfl rfl rfl))
    · intro l R5q hle ha hd
      obtain ⟨d0, d1, d2, _⟩ := hd
      have f20 : l 20 = (.agg #[(.int .i64 y22.inputs), (.int .i64 y22.outputs), v44]) := d0 rfl
      have f21 : l 21 = (.agg #[(.int .i64 y24.inputs), (.int .i64 y24.outputs), v46]) := d1 rfl
      exact gstep_plain rfl rfl rfl (ph_callP en36 (by simp only [List.map, ev, f20, f21] <;> rfl) (c_gauntletref04_Same (⟨_, ⟨_, _, rfl, rfl, ⟨_, _, rfl, rfl, (rep_one rfl (h45.mono hle))⟩⟩, rfl⟩ : VRep (kMach false false) _ _ (⟨y22.inputs, y22.outputs, y22.rows⟩ : Mach)) (⟨_, ⟨_, _, rfl, rfl, ⟨_, _, rfl, rfl, (rep_one rfl (h47.mono hle))⟩⟩, rfl⟩ : VRep (kMach false false) _ _ (⟨y24.inputs, y24.outputs, y24.rows⟩ : Mach)) c51) (fun _ _ h => h))
    · intro l R6q hle ha hd
      obtain ⟨d0, d1, _⟩ := hd
      have f19 : l 19 = (.bool y48) := d0 rfl
      have f22 : l 22 = (.bool y50) := d1 rfl
      exact gstep_plain rfl rfl rfl (ph_val (val_neqB Try.underlying4 f19 f22))
    · intro l R7q hle ha hd
      obtain ⟨d0, d1, _⟩ := hd
      have f23 : l 23 = (.bool (decide (y48 ≠ y50))) := d0 rfl
      exact gstep_plain rfl rfl rfl (ph_val (val_move f23))
    · intro l R8q hle ha hd
      obtain ⟨d0, _⟩ := hd
      have a8 : l 8 = (.pointer (some ⟨b41, 0, none⟩)) := ha 8 rfl
      exact gstep_guard (Gj := true) (Bj := decide (y48 ≠ y50)) rfl rfl rfl (gtrue (d0 rfl)) rfl (fun hG hB => ph_val (val_loadBA (i := 1) ag27 sz27 a8 rfl rfl rfl))
    · intro l R9q hle ha hd
      obtain ⟨d0, _⟩ := hd
      have a7 : l 7 = (.pointer (some ⟨b40, 0, none⟩)) := ha 7 rfl
      exact gstep_guard (Gj := true) (Bj := decide (y48 ≠ y50)) rfl rfl rfl (gtrue (d0 rfl)) rfl (fun hG hB => ph_val (val_loadBA (i := 0) ag27 sz27 a7 rfl rfl rfl))
    · intro l R10q hle ha hd
      obtain ⟨d0, d1, d2, d3, _⟩ := hd
      have f25g : phG (true && ((decide (y48 ≠ y50)) == false)) (phX (.agg #[(.int .i64 y24.inputs), (.int .i64 y24.outputs), v46])) (l 25) R10q := d0 rfl
      have f26g : phG (true && ((decide (y48 ≠ y50)) == false)) (phX (.agg #[(.int .i64 y22.inputs), (.int .i64 y22.outputs), v44])) (l 26) R10q := d1 rfl
      exact gstep_guard (Gj := true) (Bj := decide (y48 ≠ y50)) rfl rfl rfl (gtrue (d2 rfl)) rfl (fun hG hB => ph_callP en32 (by simp only [List.map, ev, (show l 25 = (.agg #[(.int .i64 y24.inputs), (.int .i64 y24.outputs), v46]) from f25g.1 (gandT rfl hB)), (show l 26 = (.agg #[(.int .i64 y22.inputs), (.int .i64 y22.outputs), v44]) from f26g.1 (gandT rfl hB))] <;> rfl) (c_machines_Same (⟨_, ⟨_, _, rfl, rfl, ⟨_, _, rfl, rfl, (rep_one rfl (h47.mono hle))⟩⟩, rfl⟩ : VRep (kMach false false) _ _ (⟨y24.inputs, y24.outputs, y24.rows⟩ : Mach)) (⟨_, ⟨_, _, rfl, rfl, ⟨_, _, rfl, rfl, (rep_one rfl (h45.mono hle))⟩⟩, rfl⟩ : VRep (kMach false false) _ _ (⟨y22.inputs, y22.outputs, y22.rows⟩ : Mach)) (gop_def c53 (gandT hG hB))) (fun _ _ h => h))
    · intro l R11q hle ha hd
      obtain ⟨d0, _⟩ := hd
      have a7 : l 7 = (.pointer (some ⟨b40, 0, none⟩)) := ha 7 rfl
      exact gstep_guard (Gj := true) (Bj := decide (y48 ≠ y50)) rfl rfl rfl (gtrue (d0 rfl)) rfl (fun hG hB => ph_val (val_loadBA (i := 0) ag27 sz27 a7 rfl rfl rfl))
    · intro l R12q hle ha hd
      obtain ⟨d0, _⟩ := hd
      have a8 : l 8 = (.pointer (some ⟨b41, 0, none⟩)) := ha 8 rfl
      exact gstep_guard (Gj := true) (Bj := decide (y48 ≠ y50)) rfl rfl rfl (gtrue (d0 rfl)) rfl (fun hG hB => ph_val (val_loadBA (i := 1) ag27 sz27 a8 rfl rfl rfl))
    · intro l R13q hle ha hd
      obtain ⟨d0, d1, d2, d3, _⟩ := hd
      have f28g : phG (true && ((decide (y48 ≠ y50)) == false)) (phX (.agg #[(.int .i64 y22.inputs), (.int .i64 y22.outputs), v44])) (l 28) R13q := d0 rfl
      have f29g : phG (true && ((decide (y48 ≠ y50)) == false)) (phX (.agg #[(.int .i64 y24.inputs), (.int .i64 y24.outputs), v46])) (l 29) R13q := d1 rfl
      exact gstep_guard (Gj := true) (Bj := decide (y48 ≠ y50)) rfl rfl rfl (gtrue (d3 rfl)) rfl (fun hG hB => ph_callP en36 (by simp only [List.map, ev, (show l 28 = (.agg #[(.int .i64 y22.inputs), (.int .i64 y22.outputs), v44]) from f28g.1 (gandT rfl hB)), (show l 29 = (.agg #[(.int .i64 y24.inputs), (.int .i64 y24.outputs), v46]) from f29g.1 (gandT rfl hB))] <;> rfl) (c_gauntletref04_Same (⟨_, ⟨_, _, rfl, rfl, ⟨_, _, rfl, rfl, (rep_one rfl (h45.mono hle))⟩⟩, rfl⟩ : VRep (kMach false false) _ _ (⟨y22.inputs, y22.outputs, y22.rows⟩ : Mach)) (⟨_, ⟨_, _, rfl, rfl, ⟨_, _, rfl, rfl, (rep_one rfl (h47.mono hle))⟩⟩, rfl⟩ : VRep (kMach false false) _ _ (⟨y24.inputs, y24.outputs, y24.rows⟩ : Mach)) (gop_def c55 (gandT hG hB))) (fun _ _ h => h))
    · intro l R14q hle ha hd
      obtain ⟨d0, d1, d2, _⟩ := hd
      have f27g : phG (true && ((decide (y48 ≠ y50)) == false)) (phX (.bool (y52.getD default))) (l 27) R14q := d0 rfl
      have f30g : phG (true && ((decide (y48 ≠ y50)) == false)) (phX (.bool (y54.getD default))) (l 30) R14q := d1 rfl
      exact gstep_guard (Gj := true) (Bj := decide (y48 ≠ y50)) rfl rfl rfl (gtrue (d2 rfl)) rfl (fun hG hB => ph_val (val_neqB Try.underlying4 (show l 27 = (.bool (y52.getD default)) from f27g.1 (gandT rfl hB)) (show l 30 = (.bool (y54.getD default)) from f30g.1 (gandT rfl hB))))
    · intro l R15q hle ha hd
      obtain ⟨d0, d1, _⟩ := hd
      have f24 : l 24 = (.bool (decide (y48 ≠ y50))) := d0 rfl
      have f31g : phG (true && ((decide (y48 ≠ y50)) == false)) (phX (.bool (decide ((y52.getD default) ≠ (y54.getD default))))) (l 31) R15q := d1 rfl
      exact gstep_plain rfl rfl rfl (ph_val (val_or f24 rfl (fun hb => (show l 31 = (.bool (decide ((y52.getD default) ≠ (y54.getD default)))) from f31g.1 (gandT rfl hb)))))
    · intro l R16q hle ha hd
      obtain ⟨d0, d1, _⟩ := hd
      have f32 : l 32 = (.bool ((decide (y48 ≠ y50)) || (decide ((y52.getD default) ≠ (y54.getD default))))) := d0 rfl
      exact gstep_plain rfl rfl rfl (ph_val (val_move f32))
    · intro l R17q hle ha hd
      obtain ⟨d0, _⟩ := hd
      have a7 : l 7 = (.pointer (some ⟨b40, 0, none⟩)) := ha 7 rfl
      exact gstep_guard (Gj := true) (Bj := (decide (y48 ≠ y50)) || (decide ((y52.getD default) ≠ (y54.getD default)))) rfl rfl rfl (gtrue (d0 rfl)) rfl (fun hG hB => ph_val (val_loadBA (i := 0) ag27 sz27 a7 rfl rfl rfl))
    · intro l R18q hle ha hd
      obtain ⟨d0, _⟩ := hd
      have a7 : l 7 = (.pointer (some ⟨b40, 0, none⟩)) := ha 7 rfl
      exact gstep_guard (Gj := true) (Bj := (decide (y48 ≠ y50)) || (decide ((y52.getD default) ≠ (y54.getD default)))) rfl rfl rfl (gtrue (d0 rfl)) rfl (fun hG hB => ph_val (val_loadBA (i := 0) ag27 sz27 a7 rfl rfl rfl))
    · intro l R19q hle ha hd
      obtain ⟨d0, d1, d2, d3, _⟩ := hd
      have f34g : phG (true && (((decide (y48 ≠ y50)) || (decide ((y52.getD default) ≠ (y54.getD default)))) == false)) (phX (.agg #[(.int .i64 y22.inputs), (.int .i64 y22.outputs), v44])) (l 34) R19q := d0 rfl
      have f35g : phG (true && (((decide (y48 ≠ y50)) || (decide ((y52.getD default) ≠ (y54.getD default)))) == false)) (phX (.agg #[(.int .i64 y22.inputs), (.int .i64 y22.outputs), v44])) (l 35) R19q := d1 rfl
      exact gstep_guard (Gj := true) (Bj := (decide (y48 ≠ y50)) || (decide ((y52.getD default) ≠ (y54.getD default)))) rfl rfl rfl (gtrue (d2 rfl)) rfl (fun hG hB => ph_callP en32 (by simp only [List.map, ev, (show l 34 = (.agg #[(.int .i64 y22.inputs), (.int .i64 y22.outputs), v44]) from f34g.1 (gandT rfl hB)), (show l 35 = (.agg #[(.int .i64 y22.inputs), (.int .i64 y22.outputs), v44]) from f35g.1 (gandT rfl hB))] <;> rfl) (c_machines_Same (⟨_, ⟨_, _, rfl, rfl, ⟨_, _, rfl, rfl, (rep_one rfl (h45.mono hle))⟩⟩, rfl⟩ : VRep (kMach false false) _ _ (⟨y22.inputs, y22.outputs, y22.rows⟩ : Mach)) (⟨_, ⟨_, _, rfl, rfl, ⟨_, _, rfl, rfl, (rep_one rfl (h45.mono hle))⟩⟩, rfl⟩ : VRep (kMach false false) _ _ (⟨y22.inputs, y22.outputs, y22.rows⟩ : Mach)) (gop_def c57 (gandT hG hB))) (fun _ _ h => h))
    · intro l R20q hle ha hd
      obtain ⟨d0, d1, _⟩ := hd
      have f36g : phG (true && (((decide (y48 ≠ y50)) || (decide ((y52.getD default) ≠ (y54.getD default)))) == false)) (phX (.bool (y56.getD default))) (l 36) R20q := d0 rfl
      exact gstep_guard (Gj := true) (Bj := (decide (y48 ≠ y50)) || (decide ((y52.getD default) ≠ (y54.getD default)))) rfl rfl rfl (gtrue (d1 rfl)) rfl (fun hG hB => ph_val (val_not (show l 36 = (.bool (y56.getD default)) from f36g.1 (gandT rfl hB))))
    · intro l R21q hle ha hd
      obtain ⟨d0, d1, _⟩ := hd
      have f33 : l 33 = (.bool ((decide (y48 ≠ y50)) || (decide ((y52.getD default) ≠ (y54.getD default))))) := d0 rfl
      have f37g : phG (true && (((decide (y48 ≠ y50)) || (decide ((y52.getD default) ≠ (y54.getD default)))) == false)) (phX (.bool (!(y56.getD default)))) (l 37) R21q := d1 rfl
      exact gstep_plain rfl rfl rfl (ph_val (val_or f33 rfl (fun hb => (show l 37 = (.bool (!(y56.getD default))) from f37g.1 (gandT rfl hb)))))
    intro v60 h61
    intro v62 h63
    intro v64 h65
    intro v66 h67
    intro v68 h69
    intro v70 h71
    intro v72 h73
    intro v74 h75
    intro v76 h77
    intro v78 h79
    intro v80 h81
    intro v82 h83
    intro v84 h85
    intro v86 h87
    intro v88 h89
    intro v90 h91
    intro v92 h93
    intro v94 h95
    intro v96 h97
    intro v98 h99
    intro v100 h101
    intro v102 h103
    obtain rfl := Eq.symm h61
    obtain rfl := Eq.symm h63
    obtain rfl := Eq.symm h65
    obtain rfl := Eq.symm h67
    obtain rfl := Eq.symm h69
    obtain rfl := Eq.symm h71
    obtain rfl := Eq.symm h73
    obtain rfl := Eq.symm h75
    obtain rfl := Eq.symm h91
    obtain rfl := Eq.symm h93
    obtain rfl := Eq.symm h103
    refine wo_nil ?_
    refine wg_cond rfl (fun e104 => ?_) (fun e104 => ?_)
    · replace hd0 := sel_t e104 hd0; clear e104
      refine wg_seq ?_
      refine wg_region ?_
      refine wo_v rfl (val_assign (v := (.bool false)) rfl) ?_
      refine wo_nil ?_
      refine wg_ret ?_
      obtain rfl := Option.some.inj hd0
      refine body_end (D := []) (J := [box b40 [(.int .i64 y22.inputs), (.int .i64 y22.outputs), v44] 27, box b41 [(.int .i64 y24.inputs), (.int .i64 y24.outputs), v46] 27]) (rs := [.tmp 6]) (vs := [(.bool false)]) (((((le4.trans le8).trans le12).trans le20).trans le27).trans le59) rfl rfl ⟨rfl, trivial⟩ ?_
      exact ⟨rfl, rfl⟩
    · replace hd0 := sel_f e104 hd0; clear e104
      refine wg_skip ?_
      refine wg_seq ?_
      refine wg_region ?_
      refine wo_v rfl (val_loadBA (i := 0) ag27 sz27 rfl rfl rfl rfl) ?_
      refine wo_alloc rfl za27 fun b105 => ?_
      refine wo_store (i := 0) (vs := [(.int .i64 y22.inputs), (.int .i64 y22.outputs), v44]) sz27 rfl rfl rfl rfl rfl rfl (one_cons rfl (one_cons rfl (one_cons (sl_one (h45.mono le59)) one_nil))) ?_
      refine wo_nil ?_
      refine wg_seq ?_
      refine wg_region ?_
      refine wo_v rfl (val_fieldB fd27_1 rfl) ?_
      refine wo_v rfl (val_loadB (i := 0) ag3 rfl rfl rfl) ?_
      have g107 := (gd_some hd0).1; replace hd0 := (gd_some hd0).2
      refine wo_v rfl (val_add rfl rfl g107) ?_
      refine wo_v rfl (val_fieldB fd27_1 rfl) ?_
      refine wo_store (i := 0) (vs := [(.int .i64 (y22.outputs + 1))]) sz3 rfl rfl rfl rfl rfl rfl (one_cons rfl one_nil) ?_
      refine wo_nil ?_
      refine wg_seq ?_
      replace hd0 := bd_some hd0; obtain ⟨y108, c109, hd0⟩ := hd0
      replace hd0 := bd_some hd0; obtain ⟨y110, c111, hd0⟩ := hd0
      replace hd0 := bd_some hd0; obtain ⟨y112, c113, hd0⟩ := hd0
      replace hd0 := bd_some hd0; obtain ⟨y114, c115, hd0⟩ := hd0
      replace hd0 := bd_some hd0; obtain ⟨y116, c117, hd0⟩ := hd0
      replace hd0 := bd_some hd0; obtain ⟨y118, c119, hd0⟩ := hd0
      refine wg_drawn 28 [] [phX (.agg #[(.int .i64 y22.inputs), (.int .i64 y22.outputs), v44]), phX (.agg #[(.int .i64 y22.inputs), (.int .i64 (y22.outputs + 1)), v44]), phX (.bool y108), phX (.bool (!y108)), phX (.bool (!y108)), phG (true && ((!y108) == true)) (phX (.agg #[(.int .i64 y22.inputs), (.int .i64 y22.outputs), v44])), phG (true && ((!y108) == true)) (phR (kMach false false) raw), phG (true && ((!y108) == true)) (phX (.bool (y110.getD default))), phG (true && ((!y108) == true)) (phX (.agg #[(.int .i64 y22.inputs), (.int .i64 y22.outputs), v44])), phG (true && ((!y108) == true)) (phR (kMach false false) raw), phG (true && ((!y108) == true)) (phX (.bool (y112.getD default))), phG (true && ((!y108) == true)) (phX (.bool (decide ((y110.getD default) = (y112.getD default))))), phX (.bool ((!y108) && (decide ((y110.getD default) = (y112.getD default))))), phX (.bool ((!y108) && (decide ((y110.getD default) = (y112.getD default))))), phG (true && (((!y108) && (decide ((y110.getD default) = (y112.getD default)))) == true)) (phR (kMach false false) raw), phG (true && (((!y108) && (decide ((y110.getD default) = (y112.getD default)))) == true)) (phX (.int .i64 (y114.getD default))), phG (true && (((!y108) && (decide ((y110.getD default) = (y112.getD default)))) == true)) (phX (.bool (decide ((y114.getD default) = 0)))), phG (true && (((!y108) && (decide ((y110.getD default) = (y112.getD default)))) == true)) (phX (.bool (decide ((y114.getD default) = 0)))), phG ((true && (((!y108) && (decide ((y110.getD default) = (y112.getD default)))) == true)) && ((decide ((y114.getD default) = 0)) == false)) (phR (kMach false false) raw), phG ((true && (((!y108) && (decide ((y110.getD default) = (y112.getD default)))) == true)) && ((decide ((y114.getD default) = 0)) == false)) (phR (kMach false false) raw), phG ((true && (((!y108) && (decide ((y110.getD default) = (y112.getD default)))) == true)) && ((decide ((y114.getD default) = 0)) == false)) (phX (.bool (y116.getD default))), phG ((true && (((!y108) && (decide ((y110.getD default) = (y112.getD default)))) == true)) && ((decide ((y114.getD default) = 0)) == false)) (phX (.bool (!(y116.getD default)))), phG (true && (((!y108) && (decide ((y110.getD default) = (y112.getD default)))) == true)) (phX (.bool ((decide ((y114.getD default) = 0)) || (!(y116.getD default))))), phX (.bool (((!y108) && (decide ((y110.getD default) = (y112.getD default)))) && ((decide ((y114.getD default) = 0)) || (!(y116.getD default))))), phX (.bool (((!y108) && (decide ((y110.getD default) = (y112.getD default)))) && ((decide ((y114.getD default) = 0)) || (!(y116.getD default))))), phG (true && ((((!y108) && (decide ((y110.getD default) = (y112.getD default)))) && ((decide ((y114.getD default) = 0)) || (!(y116.getD default)))) == true)) (phX (.bool (y118.getD default))), phX (.bool ((((!y108) && (decide ((y110.getD default) = (y112.getD default)))) && ((decide ((y114.getD default) = 0)) || (!(y116.getD default)))) && (y118.getD default))), phX (.bool ((((!y108) && (decide ((y110.getD default) = (y112.getD default)))) && ((decide ((y114.getD default) = 0)) || (!(y116.getD default)))) && (y118.getD default)))] mixed (by kernel_rfl) (monoOk_of ⟨mono_x, mono_x, mono_x, mono_x, mono_x, (mono_g mono_x), (mono_g mono_r), (mono_g mono_x), (mono_g mono_x), (mono_g mono_r), (mono_g mono_x), (mono_g mono_x), mono_x, mono_x, (mono_g mono_r), (mono_g mono_x), (mono_g mono_x), (mono_g mono_x), (mono_g mono_r), (mono_g mono_r), (mono_g mono_x), (mono_g mono_x), (mono_g mono_x), mono_x, mono_x, (mono_g mono_x), mono_x, mono_x, trivial⟩) ⟨?_, ?_, ?_, ?_, ?_, ?_, ?_, ?_, ?_, ?_, ?_, ?_, ?_, ?_, ?_, ?_, ?_, ?_, ?_, ?_, ?_, ?_, ?_, ?_, ?_, ?_, ?_, ?_, trivial⟩ fun R120 le121 => ?_
      · intro l R0q hle ha hd
        have a7 : l 7 = (.pointer (some ⟨b40, 0, none⟩)) := ha 7 rfl
        exact gstep_plain rfl rfl rfl (ph_val (val_loadBA (i := 1) ag27 sz27 a7 rfl rfl rfl))
      · intro l R1q hle ha hd
        have a9 : l 9 = (.pointer (some ⟨b105, 0, none⟩)) := ha 9 rfl
        exact gstep_plain rfl rfl rfl (ph_val (val_loadBA (i := 0) ag27 sz27 a9 rfl rfl rfl))
      · intro l R2q hle ha hd
        obtain ⟨d0, d1, _⟩ := hd
        have f44 : l 44 = (.agg #[(.int .i64 y22.inputs), (.int .i64 y22.outputs), v44]) := d0 rfl
        have f45 : l 45 = (.agg #[(.int .i64 y22.inputs), (.int .i64 (y22.outputs + 1)), v44]) := d1 rfl
        exact gstep_plain rfl rfl rfl (ph_callP en32 (by simp only [List.map, ev, f44, f45] <;> rfl) (c_machines_Same (⟨_, ⟨_, _, rfl, rfl, ⟨_, _, rfl, rfl, (rep_one rfl ((h45.mono le59).mono hle))⟩⟩, rfl⟩ : VRep (kMach false false) _ _ (⟨y22.inputs, y22.outputs, y22.rows⟩ : Mach)) (⟨_, ⟨_, _, rfl, rfl, ⟨_, _, rfl, rfl, (rep_one rfl ((h45.mono le59).mono hle))⟩⟩, rfl⟩ : VRep (kMach false false) _ _ (⟨y22.inputs, y22.outputs + 1, y22.rows⟩ : Mach)) c109) (fun _ _ h => h))
      · intro l R3q hle ha hd
        obtain ⟨d0, _⟩ := hd
        have f46 : l 46 = (.bool y108) := d0 rfl
        exact gstep_plain rfl rfl rfl (ph_val (val_not f46))
      · intro l R4q hle ha hd
        obtain ⟨d0, d1, _⟩ := hd
        have f47 : l 47 = (.bool (!y108)) := d0 rfl
        exact gstep_plain rfl rfl rfl (ph_val (val_move f47))
      · intro l R5q hle ha hd
        obtain ⟨d0, _⟩ := hd
        have a7 : l 7 = (.pointer (some ⟨b40, 0, none⟩)) := ha 7 rfl
        exact gstep_guard (Gj := true) (Bj := !y108) rfl rfl rfl (gtrue (d0 rfl)) rfl (fun hG hB => ph_val (val_loadBA (i := 1) ag27 sz27 a7 rfl rfl rfl))
      · intro l R6q hle ha hd
        obtain ⟨d0, _⟩ := hd
        have a5 : l 5 = v9 := ha 5 rfl
        exact gstep_guard (Gj := true) (Bj := !y108) rfl rfl rfl (gtrue (d0 rfl)) rfl (fun hG hB => ph_loadR ty27 a5 ((h10.mono ((le20.trans le27).trans le59)).mono hle))
      · intro l R7q hle ha hd
        obtain ⟨d0, d1, d2, d3, _⟩ := hd
        have f49g : phG (true && ((!y108) == true)) (phX (.agg #[(.int .i64 y22.inputs), (.int .i64 y22.outputs), v44])) (l 49) R7q := d0 rfl
        have f50g : phG (true && ((!y108) == true)) (phR (kMach false false) raw) (l 50) R7q := d1 rfl
        exact gstep_guard (Gj := true) (Bj := !y108) rfl rfl rfl (gtrue (d2 rfl)) rfl (fun hG hB => ph_callP en32 (by simp only [List.map, ev, (show l 49 = (.agg #[(.int .i64 y22.inputs), (.int .i64 y22.outputs), v44]) from f49g.1 (gandT rfl hB))] <;> rfl) (c_machines_Same (⟨_, ⟨_, _, rfl, rfl, ⟨_, _, rfl, rfl, (rep_one rfl ((h45.mono le59).mono hle))⟩⟩, rfl⟩ : VRep (kMach false false) _ _ (⟨y22.inputs, y22.outputs, y22.rows⟩ : Mach)) (f50g.1 (gandT rfl hB)) (gop_def c111 (gandT hG hB))) (fun _ _ h => h))
      · intro l R8q hle ha hd
        obtain ⟨d0, _⟩ := hd
        have a7 : l 7 = (.pointer (some ⟨b40, 0, none⟩)) := ha 7 rfl
        exact gstep_guard (Gj := true) (Bj := !y108) rfl rfl rfl (gtrue (d0 rfl)) rfl (fun hG hB => ph_val (val_loadBA (i := 1) ag27 sz27 a7 rfl rfl rfl))
      · intro l R9q hle ha hd
        obtain ⟨d0, _⟩ := hd
        have a5 : l 5 = v9 := ha 5 rfl
        exact gstep_guard (Gj := true) (Bj := !y108) rfl rfl rfl (gtrue (d0 rfl)) rfl (fun hG hB => ph_loadR ty27 a5 ((h10.mono ((le20.trans le27).trans le59)).mono hle))
      · intro l R10q hle ha hd
        obtain ⟨d0, d1, d2, d3, _⟩ := hd
        have f52g : phG (true && ((!y108) == true)) (phX (.agg #[(.int .i64 y22.inputs), (.int .i64 y22.outputs), v44])) (l 52) R10q := d0 rfl
        have f53g : phG (true && ((!y108) == true)) (phR (kMach false false) raw) (l 53) R10q := d1 rfl
        exact gstep_guard (Gj := true) (Bj := !y108) rfl rfl rfl (gtrue (d3 rfl)) rfl (fun hG hB => ph_callP en36 (by simp only [List.map, ev, (show l 52 = (.agg #[(.int .i64 y22.inputs), (.int .i64 y22.outputs), v44]) from f52g.1 (gandT rfl hB))] <;> rfl) (c_gauntletref04_Same (⟨_, ⟨_, _, rfl, rfl, ⟨_, _, rfl, rfl, (rep_one rfl ((h45.mono le59).mono hle))⟩⟩, rfl⟩ : VRep (kMach false false) _ _ (⟨y22.inputs, y22.outputs, y22.rows⟩ : Mach)) (f53g.1 (gandT rfl hB)) (gop_def c113 (gandT hG hB))) (fun _ _ h => h))
      · intro l R11q hle ha hd
        obtain ⟨d0, d1, d2, _⟩ := hd
        have f51g : phG (true && ((!y108) == true)) (phX (.bool (y110.getD default))) (l 51) R11q := d0 rfl
        have f54g : phG (true && ((!y108) == true)) (phX (.bool (y112.getD default))) (l 54) R11q := d1 rfl
        exact gstep_guard (Gj := true) (Bj := !y108) rfl rfl rfl (gtrue (d2 rfl)) rfl (fun hG hB => ph_val (val_eqlB Try.underlying4 (show l 51 = (.bool (y110.getD default)) from f51g.1 (gandT rfl hB)) (show l 54 = (.bool (y112.getD default)) from f54g.1 (gandT rfl hB))))
      · intro l R12q hle ha hd
        obtain ⟨d0, d1, _⟩ := hd
        have f48 : l 48 = (.bool (!y108)) := d0 rfl
        have f55g : phG (true && ((!y108) == true)) (phX (.bool (decide ((y110.getD default) = (y112.getD default))))) (l 55) R12q := d1 rfl
        exact gstep_plain rfl rfl rfl (ph_val (val_and f48 (fun hb => (show l 55 = (.bool (decide ((y110.getD default) = (y112.getD default)))) from f55g.1 (gandT rfl hb))) rfl))
      · intro l R13q hle ha hd
        obtain ⟨d0, d1, _⟩ := hd
        have f56 : l 56 = (.bool ((!y108) && (decide ((y110.getD default) = (y112.getD default))))) := d0 rfl
        exact gstep_plain rfl rfl rfl (ph_val (val_move f56))
      · intro l R14q hle ha hd
        obtain ⟨d0, _⟩ := hd
        have a5 : l 5 = v9 := ha 5 rfl
        exact gstep_guard (Gj := true) (Bj := (!y108) && (decide ((y110.getD default) = (y112.getD default)))) rfl rfl rfl (gtrue (d0 rfl)) rfl (fun hG hB => ph_loadR ty27 a5 ((h10.mono ((le20.trans le27).trans le59)).mono hle))
      · intro l R15q hle ha hd
        obtain ⟨d0, d1, d2, _⟩ := hd
        have f58g : phG (true && (((!y108) && (decide ((y110.getD default) = (y112.getD default)))) == true)) (phR (kMach false false) raw) (l 58) R15q := d0 rfl
        exact gstep_guard (Gj := true) (Bj := (!y108) && (decide ((y110.getD default) = (y112.getD default)))) rfl rfl rfl (gtrue (d1 rfl)) rfl (fun hG hB => ph_callP en30 rfl (c_gauntletref04_Check (f58g.1 (gandT rfl hB)) (gop_def c115 (gandT hG hB))) (fun _ _ h => h))
      · intro l R16q hle ha hd
        obtain ⟨d0, d1, _⟩ := hd
        have f59g : phG (true && (((!y108) && (decide ((y110.getD default) = (y112.getD default)))) == true)) (phX (.int .i64 (y114.getD default))) (l 59) R16q := d0 rfl
        exact gstep_guard (Gj := true) (Bj := (!y108) && (decide ((y110.getD default) = (y112.getD default)))) rfl rfl rfl (gtrue (d1 rfl)) rfl (fun hG hB => ph_val (val_eql (show l 59 = (.int .i64 (y114.getD default)) from f59g.1 (gandT rfl hB)) rfl))
      · intro l R17q hle ha hd
        obtain ⟨d0, d1, d2, _⟩ := hd
        have f60g : phG (true && (((!y108) && (decide ((y110.getD default) = (y112.getD default)))) == true)) (phX (.bool (decide ((y114.getD default) = 0)))) (l 60) R17q := d0 rfl
        exact gstep_guard (Gj := true) (Bj := (!y108) && (decide ((y110.getD default) = (y112.getD default)))) rfl rfl rfl (gtrue (d2 rfl)) rfl (fun hG hB => ph_val (val_move (show l 60 = (.bool (decide ((y114.getD default) = 0))) from f60g.1 (gandT rfl hB))))
      · intro l R18q hle ha hd
        obtain ⟨d0, _⟩ := hd
        have a5 : l 5 = v9 := ha 5 rfl
        exact gstep_guard (Gj := (true && (((!y108) && (decide ((y110.getD default) = (y112.getD default)))) == true))) (Bj := decide ((y114.getD default) = 0)) rfl rfl rfl (d0 rfl) rfl (fun hG hB => ph_loadR ty27 a5 ((h10.mono ((le20.trans le27).trans le59)).mono hle))
      · intro l R19q hle ha hd
        obtain ⟨d0, _⟩ := hd
        have a5 : l 5 = v9 := ha 5 rfl
        exact gstep_guard (Gj := (true && (((!y108) && (decide ((y110.getD default) = (y112.getD default)))) == true))) (Bj := decide ((y114.getD default) = 0)) rfl rfl rfl (d0 rfl) rfl (fun hG hB => ph_loadR ty27 a5 ((h10.mono ((le20.trans le27).trans le59)).mono hle))
      · intro l R20q hle ha hd
        obtain ⟨d0, d1, d2, d3, _⟩ := hd
        have f62g : phG ((true && (((!y108) && (decide ((y110.getD default) = (y112.getD default)))) == true)) && ((decide ((y114.getD default) = 0)) == false)) (phR (kMach false false) raw) (l 62) R20q := d0 rfl
        have f63g : phG ((true && (((!y108) && (decide ((y110.getD default) = (y112.getD default)))) == true)) && ((decide ((y114.getD default) = 0)) == false)) (phR (kMach false false) raw) (l 63) R20q := d1 rfl
        exact gstep_guard (Gj := (true && (((!y108) && (decide ((y110.getD default) = (y112.getD default)))) == true))) (Bj := decide ((y114.getD default) = 0)) rfl rfl rfl (d2 rfl) rfl (fun hG hB => ph_callP en32 rfl (c_machines_Same (f62g.1 (gandT hG hB)) (f63g.1 (gandT hG hB)) (gop_def c117 (gandT hG hB))) (fun _ _ h => h))
      · intro l R21q hle ha hd
        obtain ⟨d0, d1, _⟩ := hd
        have f64g : phG ((true && (((!y108) && (decide ((y110.getD default) = (y112.getD default)))) == true)) && ((decide ((y114.getD default) = 0)) == false)) (phX (.bool (y116.getD default))) (l 64) R21q := d0 rfl
        exact gstep_guard (Gj := (true && (((!y108) && (decide ((y110.getD default) = (y112.getD default)))) == true))) (Bj := decide ((y114.getD default) = 0)) rfl rfl rfl (d1 rfl) rfl (fun hG hB => ph_val (val_not (show l 64 = (.bool (y116.getD default)) from f64g.1 (gandT hG hB))))
      · intro l R22q hle ha hd
        obtain ⟨d0, d1, d2, _⟩ := hd
        have f61g : phG (true && (((!y108) && (decide ((y110.getD default) = (y112.getD default)))) == true)) (phX (.bool (decide ((y114.getD default) = 0)))) (l 61) R22q := d0 rfl
        have f65g : phG ((true && (((!y108) && (decide ((y110.getD default) = (y112.getD default)))) == true)) && ((decide ((y114.getD default) = 0)) == false)) (phX (.bool (!(y116.getD default)))) (l 65) R22q := d1 rfl
        exact gstep_guard (Gj := true) (Bj := (!y108) && (decide ((y110.getD default) = (y112.getD default)))) rfl rfl rfl (gtrue (d2 rfl)) rfl (fun hG hB => ph_val (val_or (show l 61 = (.bool (decide ((y114.getD default) = 0))) from f61g.1 (gandT rfl hB)) rfl (fun hb => (show l 65 = (.bool (!(y116.getD default))) from f65g.1 (gandT (gandT rfl hB) hb)))))
      · intro l R23q hle ha hd
        obtain ⟨d0, d1, _⟩ := hd
        have f57 : l 57 = (.bool ((!y108) && (decide ((y110.getD default) = (y112.getD default))))) := d0 rfl
        have f66g : phG (true && (((!y108) && (decide ((y110.getD default) = (y112.getD default)))) == true)) (phX (.bool ((decide ((y114.getD default) = 0)) || (!(y116.getD default))))) (l 66) R23q := d1 rfl
        exact gstep_plain rfl rfl rfl (ph_val (val_and f57 (fun hb => (show l 66 = (.bool ((decide ((y114.getD default) = 0)) || (!(y116.getD default)))) from f66g.1 (gandT rfl hb))) rfl))
      · intro l R24q hle ha hd
        obtain ⟨d0, d1, _⟩ := hd
        have f67 : l 67 = (.bool (((!y108) && (decide ((y110.getD default) = (y112.getD default)))) && ((decide ((y114.getD default) = 0)) || (!(y116.getD default))))) := d0 rfl
        exact gstep_plain rfl rfl rfl (ph_val (val_move f67))
      · intro l R25q hle ha hd
        obtain ⟨d0, d1, _⟩ := hd
        exact gstep_guard (Gj := true) (Bj := ((!y108) && (decide ((y110.getD default) = (y112.getD default)))) && ((decide ((y114.getD default) = 0)) || (!(y116.getD default)))) rfl rfl rfl (gtrue (d0 rfl)) rfl (fun hG hB => ph_callP en19 rfl (c_gauntletlaw04_lives  (gop_def c119 (gandT hG hB))) (fun _ _ h => h))
      · intro l R26q hle ha hd
        obtain ⟨d0, d1, _⟩ := hd
        have f68 : l 68 = (.bool (((!y108) && (decide ((y110.getD default) = (y112.getD default)))) && ((decide ((y114.getD default) = 0)) || (!(y116.getD default))))) := d0 rfl
        have f69g : phG (true && ((((!y108) && (decide ((y110.getD default) = (y112.getD default)))) && ((decide ((y114.getD default) = 0)) || (!(y116.getD default)))) == true)) (phX (.bool (y118.getD default))) (l 69) R26q := d1 rfl
        exact gstep_plain rfl rfl rfl (ph_val (val_and f68 (fun hb => (show l 69 = (.bool (y118.getD default)) from f69g.1 (gandT rfl hb))) rfl))
      · intro l R27q hle ha hd
        obtain ⟨d0, d1, d2, d3, d4, d5, d6, d7, d8, d9, d10, d11, d12, d13, d14, d15, d16, d17, d18, d19, d20, d21, d22, d23, d24, d25, d26, d27, d28, _⟩ := hd
        have f70 : l 70 = (.bool ((((!y108) && (decide ((y110.getD default) = (y112.getD default)))) && ((decide ((y114.getD default) = 0)) || (!(y116.getD default)))) && (y118.getD default))) := d0 rfl
        exact gstep_plain rfl rfl rfl (ph_val (val_assign f70))
      intro v122 h123
      intro v124 h125
      intro v126 h127
      intro v128 h129
      intro v130 h131
      intro v132 h133
      intro v134 h135
      intro v136 h137
      intro v138 h139
      intro v140 h141
      intro v142 h143
      intro v144 h145
      intro v146 h147
      intro v148 h149
      intro v150 h151
      intro v152 h153
      intro v154 h155
      intro v156 h157
      intro v158 h159
      intro v160 h161
      intro v162 h163
      intro v164 h165
      intro v166 h167
      intro v168 h169
      intro v170 h171
      intro v172 h173
      intro v174 h175
      intro v176 h177
      obtain rfl := Eq.symm h123
      obtain rfl := Eq.symm h125
      obtain rfl := Eq.symm h127
      obtain rfl := Eq.symm h129
      obtain rfl := Eq.symm h131
      obtain rfl := Eq.symm h147
      obtain rfl := Eq.symm h149
      obtain rfl := Eq.symm h169
      obtain rfl := Eq.symm h171
      obtain rfl := Eq.symm h175
      obtain rfl := Eq.symm h177
      refine wo_nil ?_
      refine wg_ret ?_
      obtain rfl := Option.some.inj hd0
      refine body_end (D := []) (J := [box b105 [(.int .i64 y22.inputs), (.int .i64 (y22.outputs + 1)), v44] 27, box b40 [(.int .i64 y22.inputs), (.int .i64 y22.outputs), v44] 27, box b41 [(.int .i64 y24.inputs), (.int .i64 y24.outputs), v46] 27]) (rs := [.tmp 6]) (vs := [(.bool ((((!y108) && (decide ((y110.getD default) = (y112.getD default)))) && ((decide ((y114.getD default) = 0)) || (!(y116.getD default)))) && (y118.getD default)))]) ((((((le4.trans le8).trans le12).trans le20).trans le27).trans le59).trans le121) rfl rfl ⟨rfl, trivial⟩ ?_
      exact ⟨rfl, rfl⟩
end GV
end Go.Proofs.Ytohjnbajgbdhhaa
