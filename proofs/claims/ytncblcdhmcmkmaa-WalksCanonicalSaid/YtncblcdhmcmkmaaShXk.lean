/- The walks of the functions; printed. -/
import Derived.Test.YtncblcdhmcmkmaaShWe
import Derived.Test.YtncblcdhmcmkmaaShXa
import Derived.Test.YtncblcdhmcmkmaaShXb
import Derived.Test.YtncblcdhmcmkmaaShXc
import Derived.Test.YtncblcdhmcmkmaaShXd
import Derived.Test.YtncblcdhmcmkmaaShXe
import Derived.Test.YtncblcdhmcmkmaaShXg
import Derived.Test.YtncblcdhmcmkmaaShXh
import Derived.Test.YtncblcdhmcmkmaaRows
namespace Go.Proofs.Ytncblcdhmcmkmaa
namespace GV
open Go.IntWalk
set_option linter.unusedVariables false
set_option linter.unusedSimpArgs false
set_option maxRecDepth 100000
set_option maxHeartbeats 20000000
theorem c_gauntletlaw06_WalksCanonical {N : Nat} {R : RH} {x : MDat} {v_x : Value} (h_x : VRep (kMDat false) R v_x x) {y : WDat} {v_y : Value} (h_y : VRep (kWDat false) R v_y y) {swaps : (List Int)} {v_swaps : Value} (h_swaps : VRep (tSl false (tInt .u8)) R v_swaps swaps) {r : Bool} (hd0 : gauntletlaw06_WalksCanonical N x y swaps = some r) : CallP Try.prog 6 #[v_x, v_y, v_swaps] R (fun v R' => v = (.bool r)) := by
  refine callP_of_wg (args := [v_x, v_y, v_swaps]) Try.func6 rfl rfl fun A => ?_
  rw [gauntletlaw06_WalksCanonical] at hd0
  refine wg_seq ?_
  refine wg_region ?_
  refine wo_boxR (T := (kMDat false)) rfl rfl h_x fun v1 R3 le4 h2 => ?_
  refine wo_boxR (T := (kWDat false)) rfl rfl (h_y.mono le4) fun v5 R7 le8 h6 => ?_
  refine wo_v rfl (val_assign (v := (.bool false)) rfl) ?_
  refine wo_nil ?_
  refine wg_seq ?_
  refine wg_region ?_
  refine wo_loadR rfl ty24 rfl (h2.mono le8) fun v9 h10 => ?_
  replace hd0 := bd_some hd0; obtain ⟨y11, c12, hd0⟩ := hd0
  refine wo_callP rfl en11 rfl (c_gauntletlaw04_M_Of h10 c12) fun v13 R15 le16 h14 => ?_
  refine wo_alloc rfl za27 fun b17 => ?_
  obtain ⟨v19, rfl, h20⟩ := cases_Mach h14
  refine wo_store (i := 0) (vs := [(.int .i64 y11.inputs), (.int .i64 y11.outputs), v19]) sz27 rfl rfl rfl rfl rfl rfl (one_cons rfl (one_cons rfl (one_cons (sl_one h20) one_nil))) ?_
  refine wo_nil ?_
  refine wg_seq ?_
  refine wg_region ?_
  refine wo_loadR rfl ty54 rfl (h6.mono le16) fun v21 h22 => ?_
  refine wo_v rfl (val_fieldB fd27_0 rfl) ?_
  refine wo_v rfl (val_loadB (i := 0) ag3 rfl rfl rfl) ?_
  replace hd0 := bd_some hd0; obtain ⟨y23, c24, hd0⟩ := hd0
  refine wo_callP rfl en22 rfl (c_gauntletlaw01_W_Of h22 c24) fun v25 R27 le28 h26 => ?_
  refine wo_v rfl (val_assign (v := v25) rfl) ?_
  refine wo_nil ?_
  refine wg_seq ?_
  refine wg_region ?_
  refine wo_v rfl (val_loadBA (i := 0) ag27 sz27 rfl rfl rfl rfl) ?_
  replace hd0 := bd_some hd0; obtain ⟨y29, c30, hd0⟩ := hd0
  refine wo_callP rfl en28 rfl (c_walks_Canonical (⟨_, ⟨_, _, rfl, rfl, ⟨_, _, rfl, rfl, (rep_one rfl (h20.mono le28))⟩⟩, rfl⟩ : VRep (kMach false false) _ _ (⟨y11.inputs, y11.outputs, y11.rows⟩ : Mach)) c30) fun v31 R33 le34 h32 => ?_
  obtain ⟨v35, rfl, h36⟩ := h32
  refine wo_v rfl (val_move (v := (.tuple #[v35, (.int .i64 y29.2)])) rfl) ?_
  refine wo_v rfl (val_extract rfl rfl) ?_
  refine wo_v rfl (val_extract rfl rfl) ?_
  refine wo_alloc rfl za27 fun b37 => ?_
  obtain ⟨v39, rfl, h40⟩ := cases_Mach h36
  refine wo_store (i := 0) (vs := [(.int .i64 y29.1.inputs), (.int .i64 y29.1.outputs), v39]) sz27 rfl rfl rfl rfl rfl rfl (one_cons rfl (one_cons rfl (one_cons (sl_one h40) one_nil))) ?_
  refine wo_v rfl (val_assign (v := (.int .i64 y29.2)) rfl) ?_
  refine wo_nil ?_
  refine wg_seq ?_
  refine wg_seq ?_
  replace hd0 := bd_some hd0; obtain ⟨y41, c42, hd0⟩ := hd0
  replace hd0 := bd_some hd0; obtain ⟨y43, c44, hd0⟩ := hd0
  replace hd0 := bd_some hd0; obtain ⟨y45, c46, hd0⟩ := hd0
  replace hd0 := bd_some hd0; obtain ⟨y47, c48, hd0⟩ := hd0
  replace hd0 := bd_some hd0; obtain ⟨y49, c50, hd0⟩ := hd0
  refine wg_drawn 16 [] [phX (.agg #[(.int .i64 y29.1.inputs), (.int .i64 y29.1.outputs), v39]), phX (.int .i64 y29.2), phX (.agg #[(.int .i64 y11.inputs), (.int .i64 y11.outputs), v19]), phR (kMach false false) y41, phX (.bool y43), phX (.bool (!y43)), phX (.bool (!y43)), phG (true && ((!y43) == false)) (phX (.agg #[(.int .i64 y29.1.inputs), (.int .i64 y29.1.outputs), v39])), phG (true && ((!y43) == false)) (phX v25), phG (true && ((!y43) == false)) (phR (tSl false (tInt .i64)) (y45.getD default)), phG (true && ((!y43) == false)) (phX (.agg #[(.int .i64 y11.inputs), (.int .i64 y11.outputs), v19])), phG (true && ((!y43) == false)) (phX v25), phG (true && ((!y43) == false)) (phR (tSl false (tInt .i64)) (y47.getD default)), phG (true && ((!y43) == false)) (phX (.bool (y49.getD default))), phG (true && ((!y43) == false)) (phX (.bool (!(y49.getD default)))), phX (.bool ((!y43) || (!(y49.getD default))))] mixed (by kernel_rfl) (monoOk_of ⟨mono_x, mono_x, mono_x, mono_r, mono_x, mono_x, mono_x, (mono_g mono_x), (mono_g mono_x), (mono_g mono_r), (mono_g mono_x), (mono_g mono_x), (mono_g mono_r), (mono_g mono_x), (mono_g mono_x), mono_x, trivial⟩) ⟨?_, ?_, ?_, ?_, ?_, ?_, ?_, ?_, ?_, ?_, ?_, ?_, ?_, ?_, ?_, ?_, trivial⟩ fun R51 le52 => ?_
  · intro l R0q hle ha hd
    have a9 : l 9 = (.pointer (some ⟨b37, 0, none⟩)) := ha 9 rfl
    exact gstep_plain rfl rfl rfl (ph_val (val_loadBA (i := 0) ag27 sz27 a9 rfl rfl rfl))
  · intro l R1q hle ha hd
    have a10 : l 10 = (.int .i64 y29.2) := ha 10 rfl
    exact gstep_plain rfl rfl rfl (ph_val (val_move a10))
  · intro l R2q hle ha hd
    have a7 : l 7 = (.pointer (some ⟨b17, 0, none⟩)) := ha 7 rfl
    exact gstep_plain rfl rfl rfl (ph_val (val_loadBA (i := 1) ag27 sz27 a7 rfl rfl rfl))
  · intro l R3q hle ha hd
    obtain ⟨d0, _⟩ := hd
    have f37 : l 37 = (.agg #[(.int .i64 y11.inputs), (.int .i64 y11.outputs), v19]) := d0 rfl
    exact gstep_plain rfl rfl rfl (ph_callP (vs := [(.agg #[(.int .i64 y11.inputs), (.int .i64 y11.outputs), v19])]) en29 (by simp only [List.map, ev, f37] <;> rfl) (c_gauntletref06_Canonical (⟨_, ⟨_, _, rfl, rfl, ⟨_, _, rfl, rfl, (rep_one rfl ((h20.mono (le28.trans le34)).mono hle))⟩⟩, rfl⟩ : VRep (kMach false false) _ _ (⟨y11.inputs, y11.outputs, y11.rows⟩ : Mach)) c42) (fun _ _ h => h))
  · intro l R4q hle ha hd
    obtain ⟨d0, d1, d2, d3, _⟩ := hd
    have f35 : l 35 = (.agg #[(.int .i64 y29.1.inputs), (.int .i64 y29.1.outputs), v39]) := d0 rfl
    have f36 : l 36 = (.int .i64 y29.2) := d1 rfl
    have f38 : phR (kMach false false) y41 (l 38) R4q := d2 rfl
    exact gstep_plain rfl rfl rfl (ph_callP (vs := [(.agg #[(.int .i64 y29.1.inputs), (.int .i64 y29.1.outputs), v39]), (.int .i64 y29.2), (l 38)]) en24 (by simp only [List.map, ev, f35, f36] <;> rfl) (c_gauntletlaw06_machine (⟨_, ⟨_, _, rfl, rfl, ⟨_, _, rfl, rfl, (rep_one rfl (h40.mono hle))⟩⟩, rfl⟩ : VRep (kMach true true) _ _ (⟨y29.1.inputs, y29.1.outputs, y29.1.rows⟩ : Mach)) f38 c44) (fun _ _ h => h))
  · intro l R5q hle ha hd
    obtain ⟨d0, _⟩ := hd
    have f39 : l 39 = (.bool y43) := d0 rfl
    exact gstep_plain rfl rfl rfl (ph_val (val_not f39))
  · intro l R6q hle ha hd
    obtain ⟨d0, d1, _⟩ := hd
    have f40 : l 40 = (.bool (!y43)) := d0 rfl
    exact gstep_plain rfl rfl rfl (ph_val (val_move f40))
  · intro l R7q hle ha hd
    obtain ⟨d0, _⟩ := hd
    have a9 : l 9 = (.pointer (some ⟨b37, 0, none⟩)) := ha 9 rfl
    exact gstep_guard (Gj := true) (Bj := !y43) rfl rfl rfl (gtrue (d0 rfl)) rfl (fun hG hB => ph_val (val_loadBA (i := 0) ag27 sz27 a9 rfl rfl rfl))
  · intro l R8q hle ha hd
    obtain ⟨d0, _⟩ := hd
    have a8 : l 8 = v25 := ha 8 rfl
    exact gstep_guard (Gj := true) (Bj := !y43) rfl rfl rfl (gtrue (d0 rfl)) rfl (fun hG hB => ph_val (val_move a8))
  · intro l R9q hle ha hd
    obtain ⟨d0, d1, d2, d3, _⟩ := hd
    have f42g : phG (true && ((!y43) == false)) (phX (.agg #[(.int .i64 y29.1.inputs), (.int .i64 y29.1.outputs), v39])) (l 42) R9q := d0 rfl
    have f43g : phG (true && ((!y43) == false)) (phX v25) (l 43) R9q := d1 rfl
    exact gstep_guard (Gj := true) (Bj := !y43) rfl rfl rfl (gtrue (d2 rfl)) rfl (fun hG hB => ph_callP (vs := [(.agg #[(.int .i64 y29.1.inputs), (.int .i64 y29.1.outputs), v39]), (.int .i64 0), v25]) en27 (by simp only [List.map, ev, (show l 42 = (.agg #[(.int .i64 y29.1.inputs), (.int .i64 y29.1.outputs), v39]) from f42g.1 (gandT rfl hB)), (show l 43 = v25 from f43g.1 (gandT rfl hB))] <;> rfl) ((by have z := (gop_def c46 (gandT hG hB)); exact c_gauntletref04_Run (⟨_, ⟨_, _, rfl, rfl, ⟨_, _, rfl, rfl, (rep_one rfl (Sub.v (B := (tSl false (tSl false kEdge))) (sub_sl (sub_sl Sub.refl (fun _ => rfl)) (fun _ => rfl)) (h40.mono hle)))⟩⟩, rfl⟩ : VRep (kMach false false) _ _ (⟨y29.1.inputs, y29.1.outputs, y29.1.rows⟩ : Mach)) ((h26.mono le34).mono hle) z)) (fun _ _ h => h))
  · intro l R10q hle ha hd
    obtain ⟨d0, _⟩ := hd
    have a7 : l 7 = (.pointer (some ⟨b17, 0, none⟩)) := ha 7 rfl
    exact gstep_guard (Gj := true) (Bj := !y43) rfl rfl rfl (gtrue (d0 rfl)) rfl (fun hG hB => ph_val (val_loadBA (i := 1) ag27 sz27 a7 rfl rfl rfl))
  · intro l R11q hle ha hd
    obtain ⟨d0, _⟩ := hd
    have a8 : l 8 = v25 := ha 8 rfl
    exact gstep_guard (Gj := true) (Bj := !y43) rfl rfl rfl (gtrue (d0 rfl)) rfl (fun hG hB => ph_val (val_move a8))
  · intro l R12q hle ha hd
    obtain ⟨d0, d1, d2, d3, _⟩ := hd
    have f45g : phG (true && ((!y43) == false)) (phX (.agg #[(.int .i64 y11.inputs), (.int .i64 y11.outputs), v19])) (l 45) R12q := d0 rfl
    have f46g : phG (true && ((!y43) == false)) (phX v25) (l 46) R12q := d1 rfl
    exact gstep_guard (Gj := true) (Bj := !y43) rfl rfl rfl (gtrue (d3 rfl)) rfl (fun hG hB => ph_callP (vs := [(.agg #[(.int .i64 y11.inputs), (.int .i64 y11.outputs), v19]), (.int .i64 0), v25]) en27 (by simp only [List.map, ev, (show l 45 = (.agg #[(.int .i64 y11.inputs), (.int .i64 y11.outputs), v19]) from f45g.1 (gandT rfl hB)), (show l 46 = v25 from f46g.1 (gandT rfl hB))] <;> rfl) ((by have z := (gop_def c48 (gandT hG hB)); exact c_gauntletref04_Run (⟨_, ⟨_, _, rfl, rfl, ⟨_, _, rfl, rfl, (rep_one rfl ((h20.mono (le28.trans le34)).mono hle))⟩⟩, rfl⟩ : VRep (kMach false false) _ _ (⟨y11.inputs, y11.outputs, y11.rows⟩ : Mach)) ((h26.mono le34).mono hle) z)) (fun _ _ h => h))
  · intro l R13q hle ha hd
    obtain ⟨d0, d1, d2, d3, _⟩ := hd
    have f44g : phG (true && ((!y43) == false)) (phR (tSl false (tInt .i64)) (y45.getD default)) (l 44) R13q := d0 rfl
    have f47g : phG (true && ((!y43) == false)) (phR (tSl false (tInt .i64)) (y47.getD default)) (l 47) R13q := d1 rfl
    exact gstep_guard (Gj := true) (Bj := !y43) rfl rfl rfl (gtrue (d3 rfl)) rfl (fun hG hB => ph_callP (vs := [(l 44), (l 47)]) en16 rfl ((by have z := (gop_def c50 (gandT hG hB)); exact c_gauntletref01_Same (f44g.1 (gandT rfl hB)) (f47g.1 (gandT rfl hB)) z)) (fun _ _ h => h))
  · intro l R14q hle ha hd
    obtain ⟨d0, d1, _⟩ := hd
    have f48g : phG (true && ((!y43) == false)) (phX (.bool (y49.getD default))) (l 48) R14q := d0 rfl
    exact gstep_guard (Gj := true) (Bj := !y43) rfl rfl rfl (gtrue (d1 rfl)) rfl (fun hG hB => ph_val (val_not (show l 48 = (.bool (y49.getD default)) from f48g.1 (gandT rfl hB))))
  · intro l R15q hle ha hd
    obtain ⟨d0, d1, _⟩ := hd
    have f41 : l 41 = (.bool (!y43)) := d0 rfl
    have f49g : phG (true && ((!y43) == false)) (phX (.bool (!(y49.getD default)))) (l 49) R15q := d1 rfl
    exact gstep_plain rfl rfl rfl (ph_val (val_or f41 rfl (fun hb => (show l 49 = (.bool (!(y49.getD default))) from f49g.1 (gandT rfl hb)))))
  intro v53 h54
  intro v55 h56
  intro v57 h58
  intro v59 h60
  intro v61 h62
  intro v63 h64
  intro v65 h66
  intro v67 h68
  intro v69 h70
  intro v71 h72
  intro v73 h74
  intro v75 h76
  intro v77 h78
  intro v79 h80
  intro v81 h82
  intro v83 h84
  obtain rfl := Eq.symm h54
  obtain rfl := Eq.symm h56
  obtain rfl := Eq.symm h58
  obtain rfl := Eq.symm h62
  obtain rfl := Eq.symm h64
  obtain rfl := Eq.symm h66
  obtain rfl := Eq.symm h84
  refine wo_nil ?_
  refine wg_cond rfl (fun e85 => ?_) (fun e85 => ?_)
  · replace hd0 := sel_t e85 hd0; clear e85
    refine wg_seq ?_
    refine wg_region ?_
    refine wo_v rfl (val_assign (v := (.bool false)) rfl) ?_
    refine wo_nil ?_
    refine wg_ret ?_
    obtain rfl := Option.some.inj hd0
    refine body_end (D := []) (J := [box b37 [(.int .i64 y29.1.inputs), (.int .i64 y29.1.outputs), v39] 27, box b17 [(.int .i64 y11.inputs), (.int .i64 y11.outputs), v19] 27]) (rs := [.tmp 6]) (vs := [(.bool false)]) (((((le4.trans le8).trans le16).trans le28).trans le34).trans le52) rfl rfl ⟨rfl, trivial⟩ ?_
    exact ⟨rfl, rfl⟩
  · replace hd0 := sel_f e85 hd0; clear e85
    refine wg_skip ?_
    refine wg_seq ?_
    refine wg_region ?_
    refine wo_v rfl (val_loadBA (i := 0) ag27 sz27 rfl rfl rfl rfl) ?_
    replace hd0 := bd_some hd0; obtain ⟨y86, c87, hd0⟩ := hd0
    refine wo_callP rfl en28 rfl (c_walks_Canonical (⟨_, ⟨_, _, rfl, rfl, ⟨_, _, rfl, rfl, (rep_one rfl (Sub.v (B := (tSl false (tSl false kEdge))) (sub_sl (sub_sl Sub.refl (fun _ => rfl)) (fun _ => rfl)) (h40.mono le52)))⟩⟩, rfl⟩ : VRep (kMach false false) _ _ (⟨y29.1.inputs, y29.1.outputs, y29.1.rows⟩ : Mach)) c87) fun v88 R90 le91 h89 => ?_
    obtain ⟨v92, rfl, h93⟩ := h89
    refine wo_v rfl (val_move (v := (.tuple #[v92, (.int .i64 y86.2)])) rfl) ?_
    refine wo_v rfl (val_extract rfl rfl) ?_
    refine wo_v rfl (val_extract rfl rfl) ?_
    refine wo_alloc rfl za27 fun b94 => ?_
    obtain ⟨v96, rfl, h97⟩ := cases_Mach h93
    refine wo_store (i := 0) (vs := [(.int .i64 y86.1.inputs), (.int .i64 y86.1.outputs), v96]) sz27 rfl rfl rfl rfl rfl rfl (one_cons rfl (one_cons rfl (one_cons (sl_one h97) one_nil))) ?_
    refine wo_v rfl (val_assign (v := (.int .i64 y86.2)) rfl) ?_
    refine wo_nil ?_
    refine wg_seq ?_
    refine wg_region ?_
    refine wo_v rfl (val_loadBA (i := 2) ag27 sz27 rfl rfl rfl rfl) ?_
    replace hd0 := bd_some hd0; obtain ⟨y98, c99, hd0⟩ := hd0
    refine wo_callP rfl en30 rfl (c_walks_IsCanonical (⟨_, ⟨_, _, rfl, rfl, ⟨_, _, rfl, rfl, (rep_one rfl (h20.mono (((le28.trans le34).trans le52).trans le91)))⟩⟩, rfl⟩ : VRep (kMach false false) _ _ (⟨y11.inputs, y11.outputs, y11.rows⟩ : Mach)) c99) fun v100 R102 le103 h101 => ?_
    obtain rfl := h101
    refine wo_v rfl (val_move (v := (.tuple #[(.bool y98.1), (.int .i64 y98.2)])) rfl) ?_
    refine wo_v rfl (val_extract rfl rfl) ?_
    refine wo_v rfl (val_extract rfl rfl) ?_
    refine wo_v rfl (val_assign (v := (.bool y98.1)) rfl) ?_
    refine wo_v rfl (val_assign (v := (.int .i64 y98.2)) rfl) ?_
    refine wo_nil ?_
    refine wg_seq ?_
    refine wg_region ?_
    refine wo_v rfl (val_loadBA (i := 1) ag27 sz27 rfl rfl rfl rfl) ?_
    replace hd0 := bd_some hd0; obtain ⟨y104, c105, hd0⟩ := hd0
    refine wo_callP rfl en30 rfl (c_walks_IsCanonical (⟨_, ⟨_, _, rfl, rfl, ⟨_, _, rfl, rfl, (rep_one rfl (Sub.v (B := (tSl false (tSl false kEdge))) (sub_sl (sub_sl Sub.refl (fun _ => rfl)) (fun _ => rfl)) (h40.mono ((le52.trans le91).trans le103))))⟩⟩, rfl⟩ : VRep (kMach false false) _ _ (⟨y29.1.inputs, y29.1.outputs, y29.1.rows⟩ : Mach)) c105) fun v106 R108 le109 h107 => ?_
    obtain rfl := h107
    refine wo_v rfl (val_move (v := (.tuple #[(.bool y104.1), (.int .i64 y104.2)])) rfl) ?_
    refine wo_v rfl (val_extract rfl rfl) ?_
    refine wo_v rfl (val_extract rfl rfl) ?_
    refine wo_v rfl (val_assign (v := (.bool y104.1)) rfl) ?_
    refine wo_v rfl (val_assign (v := (.int .i64 y104.2)) rfl) ?_
    refine wo_nil ?_
    refine wg_seq ?_
    refine wg_seq ?_
    replace hd0 := bd_some hd0; obtain ⟨y110, c111, hd0⟩ := hd0
    replace hd0 := bd_some hd0; obtain ⟨y112, c113, hd0⟩ := hd0
    refine wg_guarded 24 [] [phX (.agg #[(.int .i64 y86.1.inputs), (.int .i64 y86.1.outputs), v96]), phX (.int .i64 y86.2), phX (.agg #[(.int .i64 y29.1.inputs), (.int .i64 y29.1.outputs), v39]), phX (.bool y110), phX (.bool (!y110)), phX (.bool (!y110)), phG (true && ((!y110) == false)) (phX (.int .i64 y98.2)), phG (true && ((!y110) == false)) (phX (.bool (decide (y98.2 ≠ 0)))), phX (.bool ((!y110) || (decide (y98.2 ≠ 0)))), phX (.bool ((!y110) || (decide (y98.2 ≠ 0)))), phG (true && (((!y110) || (decide (y98.2 ≠ 0))) == false)) (phX (.bool y98.1)), phG (true && (((!y110) || (decide (y98.2 ≠ 0))) == false)) (phX (.agg #[(.int .i64 y11.inputs), (.int .i64 y11.outputs), v19])), phG (true && (((!y110) || (decide (y98.2 ≠ 0))) == false)) (phX (.agg #[(.int .i64 y29.1.inputs), (.int .i64 y29.1.outputs), v39])), phG (true && (((!y110) || (decide (y98.2 ≠ 0))) == false)) (phX (.bool (y112.getD default))), phG (true && (((!y110) || (decide (y98.2 ≠ 0))) == false)) (phX (.bool (decide (y98.1 ≠ (y112.getD default))))), phX (.bool (((!y110) || (decide (y98.2 ≠ 0))) || (decide (y98.1 ≠ (y112.getD default))))), phX (.bool (((!y110) || (decide (y98.2 ≠ 0))) || (decide (y98.1 ≠ (y112.getD default))))), phG (true && ((((!y110) || (decide (y98.2 ≠ 0))) || (decide (y98.1 ≠ (y112.getD default)))) == false)) (phX (.int .i64 y104.2)), phG (true && ((((!y110) || (decide (y98.2 ≠ 0))) || (decide (y98.1 ≠ (y112.getD default)))) == false)) (phX (.bool (decide (y104.2 ≠ 0)))), phX (.bool ((((!y110) || (decide (y98.2 ≠ 0))) || (decide (y98.1 ≠ (y112.getD default)))) || (decide (y104.2 ≠ 0)))), phX (.bool ((((!y110) || (decide (y98.2 ≠ 0))) || (decide (y98.1 ≠ (y112.getD default)))) || (decide (y104.2 ≠ 0)))), phG (true && (((((!y110) || (decide (y98.2 ≠ 0))) || (decide (y98.1 ≠ (y112.getD default)))) || (decide (y104.2 ≠ 0))) == false)) (phX (.bool y104.1)), phG (true && (((((!y110) || (decide (y98.2 ≠ 0))) || (decide (y98.1 ≠ (y112.getD default)))) || (decide (y104.2 ≠ 0))) == false)) (phX (.bool (!y104.1))), phX (.bool (((((!y110) || (decide (y98.2 ≠ 0))) || (decide (y98.1 ≠ (y112.getD default)))) || (decide (y104.2 ≠ 0))) || (!y104.1)))] (by kernel_rfl) (by kernel_rfl) (monoOk_of ⟨mono_x, mono_x, mono_x, mono_x, mono_x, mono_x, (mono_g mono_x), (mono_g mono_x), mono_x, mono_x, (mono_g mono_x), (mono_g mono_x), (mono_g mono_x), (mono_g mono_x), (mono_g mono_x), mono_x, mono_x, (mono_g mono_x), (mono_g mono_x), mono_x, mono_x, (mono_g mono_x), (mono_g mono_x), mono_x, trivial⟩) ⟨?_, ?_, ?_, ?_, ?_, ?_, ?_, ?_, ?_, ?_, ?_, ?_, ?_, ?_, ?_, ?_, ?_, ?_, ?_, ?_, ?_, ?_, ?_, ?_, trivial⟩ fun R114 le115 => ?_
    · intro l R0q hle ha hd
      have a11 : l 11 = (.pointer (some ⟨b94, 0, none⟩)) := ha 11 rfl
      exact gstep_plain rfl rfl rfl (ph_val (val_loadBA (i := 0) ag27 sz27 a11 rfl rfl rfl))
    · intro l R1q hle ha hd
      have a12 : l 12 = (.int .i64 y86.2) := ha 12 rfl
      exact gstep_plain rfl rfl rfl (ph_val (val_move a12))
    · intro l R2q hle ha hd
      have a9 : l 9 = (.pointer (some ⟨b37, 0, none⟩)) := ha 9 rfl
      exact gstep_plain rfl rfl rfl (ph_val (val_loadBA (i := 1) ag27 sz27 a9 rfl rfl rfl))
    · intro l R3q hle ha hd
      obtain ⟨d0, d1, d2, _⟩ := hd
      have f66 : l 66 = (.agg #[(.int .i64 y86.1.inputs), (.int .i64 y86.1.outputs), v96]) := d0 rfl
      have f67 : l 67 = (.int .i64 y86.2) := d1 rfl
      have f68 : l 68 = (.agg #[(.int .i64 y29.1.inputs), (.int .i64 y29.1.outputs), v39]) := d2 rfl
      exact gstep_plain rfl rfl rfl (ph_callP (vs := [(.agg #[(.int .i64 y86.1.inputs), (.int .i64 y86.1.outputs), v96]), (.int .i64 y86.2), (.agg #[(.int .i64 y29.1.inputs), (.int .i64 y29.1.outputs), v39])]) en24 (by simp only [List.map, ev, f66, f67, f68] <;> rfl) (c_gauntletlaw06_machine (⟨_, ⟨_, _, rfl, rfl, ⟨_, _, rfl, rfl, (rep_one rfl ((h97.mono (le103.trans le109)).mono hle))⟩⟩, rfl⟩ : VRep (kMach true true) _ _ (⟨y86.1.inputs, y86.1.outputs, y86.1.rows⟩ : Mach)) (⟨_, ⟨_, _, rfl, rfl, ⟨_, _, rfl, rfl, (rep_one rfl (Sub.v (B := (tSl false (tSl false kEdge))) (sub_sl (sub_sl Sub.refl (fun _ => rfl)) (fun _ => rfl)) ((h40.mono (((le52.trans le91).trans le103).trans le109)).mono hle)))⟩⟩, rfl⟩ : VRep (kMach false false) _ _ (⟨y29.1.inputs, y29.1.outputs, y29.1.rows⟩ : Mach)) c111) (fun _ _ h => h))
    · intro l R4q hle ha hd
      obtain ⟨d0, _⟩ := hd
      have f69 : l 69 = (.bool y110) := d0 rfl
      exact gstep_plain rfl rfl rfl (ph_val (val_not f69))
    · intro l R5q hle ha hd
      obtain ⟨d0, d1, _⟩ := hd
      have f70 : l 70 = (.bool (!y110)) := d0 rfl
      exact gstep_plain rfl rfl rfl (ph_val (val_move f70))
    · intro l R6q hle ha hd
      obtain ⟨d0, _⟩ := hd
      have a14 : l 14 = (.int .i64 y98.2) := ha 14 rfl
      exact gstep_guard (Gj := true) (Bj := !y110) rfl rfl rfl (gtrue (d0 rfl)) rfl (fun hG hB => ph_val (val_move a14))
    · intro l R7q hle ha hd
      obtain ⟨d0, d1, _⟩ := hd
      have f72g : phG (true && ((!y110) == false)) (phX (.int .i64 y98.2)) (l 72) R7q := d0 rfl
      exact gstep_guard (Gj := true) (Bj := !y110) rfl rfl rfl (gtrue (d1 rfl)) rfl (fun hG hB => ph_val (val_neq (show l 72 = (.int .i64 y98.2) from f72g.1 (gandT rfl hB)) rfl))
    · intro l R8q hle ha hd
      obtain ⟨d0, d1, _⟩ := hd
      have f71 : l 71 = (.bool (!y110)) := d0 rfl
      have f73g : phG (true && ((!y110) == false)) (phX (.bool (decide (y98.2 ≠ 0)))) (l 73) R8q := d1 rfl
      exact gstep_plain rfl rfl rfl (ph_val (val_or f71 rfl (fun hb => (show l 73 = (.bool (decide (y98.2 ≠ 0))) from f73g.1 (gandT rfl hb)))))
    · intro l R9q hle ha hd
      obtain ⟨d0, d1, _⟩ := hd
      have f74 : l 74 = (.bool ((!y110) || (decide (y98.2 ≠ 0)))) := d0 rfl
      exact gstep_plain rfl rfl rfl (ph_val (val_move f74))
    · intro l R10q hle ha hd
      obtain ⟨d0, _⟩ := hd
      have a13 : l 13 = (.bool y98.1) := ha 13 rfl
      exact gstep_guard (Gj := true) (Bj := (!y110) || (decide (y98.2 ≠ 0))) rfl rfl rfl (gtrue (d0 rfl)) rfl (fun hG hB => ph_val (val_move a13))
    · intro l R11q hle ha hd
      obtain ⟨d0, _⟩ := hd
      have a7 : l 7 = (.pointer (some ⟨b17, 0, none⟩)) := ha 7 rfl
      exact gstep_guard (Gj := true) (Bj := (!y110) || (decide (y98.2 ≠ 0))) rfl rfl rfl (gtrue (d0 rfl)) rfl (fun hG hB => ph_val (val_loadBA (i := 2) ag27 sz27 a7 rfl rfl rfl))
    · intro l R12q hle ha hd
      obtain ⟨d0, _⟩ := hd
      have a9 : l 9 = (.pointer (some ⟨b37, 0, none⟩)) := ha 9 rfl
      exact gstep_guard (Gj := true) (Bj := (!y110) || (decide (y98.2 ≠ 0))) rfl rfl rfl (gtrue (d0 rfl)) rfl (fun hG hB => ph_val (val_loadBA (i := 1) ag27 sz27 a9 rfl rfl rfl))
    · intro l R13q hle ha hd
      obtain ⟨d0, d1, d2, d3, _⟩ := hd
      have f77g : phG (true && (((!y110) || (decide (y98.2 ≠ 0))) == false)) (phX (.agg #[(.int .i64 y11.inputs), (.int .i64 y11.outputs), v19])) (l 77) R13q := d0 rfl
      have f78g : phG (true && (((!y110) || (decide (y98.2 ≠ 0))) == false)) (phX (.agg #[(.int .i64 y29.1.inputs), (.int .i64 y29.1.outputs), v39])) (l 78) R13q := d1 rfl
      exact gstep_guard (Gj := true) (Bj := (!y110) || (decide (y98.2 ≠ 0))) rfl rfl rfl (gtrue (d2 rfl)) rfl (fun hG hB => ph_callP (vs := [(.agg #[(.int .i64 y11.inputs), (.int .i64 y11.outputs), v19]), (.agg #[(.int .i64 y29.1.inputs), (.int .i64 y29.1.outputs), v39])]) en31 (by simp only [List.map, ev, (show l 77 = (.agg #[(.int .i64 y11.inputs), (.int .i64 y11.outputs), v19]) from f77g.1 (gandT rfl hB)), (show l 78 = (.agg #[(.int .i64 y29.1.inputs), (.int .i64 y29.1.outputs), v39]) from f78g.1 (gandT rfl hB))] <;> rfl) ((by have z := (gop_def c113 (gandT hG hB)); exact c_gauntletref04_Same (⟨_, ⟨_, _, rfl, rfl, ⟨_, _, rfl, rfl, (rep_one rfl ((h20.mono (((((le28.trans le34).trans le52).trans le91).trans le103).trans le109)).mono hle))⟩⟩, rfl⟩ : VRep (kMach false false) _ _ (⟨y11.inputs, y11.outputs, y11.rows⟩ : Mach)) (⟨_, ⟨_, _, rfl, rfl, ⟨_, _, rfl, rfl, (rep_one rfl (Sub.v (B := (tSl false (tSl false kEdge))) (sub_sl (sub_sl Sub.refl (fun _ => rfl)) (fun _ => rfl)) ((h40.mono (((le52.trans le91).trans le103).trans le109)).mono hle)))⟩⟩, rfl⟩ : VRep (kMach false false) _ _ (⟨y29.1.inputs, y29.1.outputs, y29.1.rows⟩ : Mach)) z)) (fun _ _ h => h))
    · intro l R14q hle ha hd
      obtain ⟨d0, d1, d2, _⟩ := hd
      have f76g : phG (true && (((!y110) || (decide (y98.2 ≠ 0))) == false)) (phX (.bool y98.1)) (l 76) R14q := d0 rfl
      have f79g : phG (true && (((!y110) || (decide (y98.2 ≠ 0))) == false)) (phX (.bool (y112.getD default))) (l 79) R14q := d1 rfl
      exact gstep_guard (Gj := true) (Bj := (!y110) || (decide (y98.2 ≠ 0))) rfl rfl rfl (gtrue (d2 rfl)) rfl (fun hG hB => ph_val (val_neqB Try.underlying4 (show l 76 = (.bool y98.1) from f76g.1 (gandT rfl hB)) (show l 79 = (.bool (y112.getD default)) from f79g.1 (gandT rfl hB))))
    · intro l R15q hle ha hd
      obtain ⟨d0, d1, _⟩ := hd
      have f75 : l 75 = (.bool ((!y110) || (decide (y98.2 ≠ 0)))) := d0 rfl
      have f80g : phG (true && (((!y110) || (decide (y98.2 ≠ 0))) == false)) (phX (.bool (decide (y98.1 ≠ (y112.getD default))))) (l 80) R15q := d1 rfl
      exact gstep_plain rfl rfl rfl (ph_val (val_or f75 rfl (fun hb => (show l 80 = (.bool (decide (y98.1 ≠ (y112.getD default)))) from f80g.1 (gandT rfl hb)))))
    · intro l R16q hle ha hd
      obtain ⟨d0, d1, _⟩ := hd
      have f81 : l 81 = (.bool (((!y110) || (decide (y98.2 ≠ 0))) || (decide (y98.1 ≠ (y112.getD default))))) := d0 rfl
      exact gstep_plain rfl rfl rfl (ph_val (val_move f81))
    · intro l R17q hle ha hd
      obtain ⟨d0, _⟩ := hd
      have a16 : l 16 = (.int .i64 y104.2) := ha 16 rfl
      exact gstep_guard (Gj := true) (Bj := ((!y110) || (decide (y98.2 ≠ 0))) || (decide (y98.1 ≠ (y112.getD default)))) rfl rfl rfl (gtrue (d0 rfl)) rfl (fun hG hB => ph_val (val_move a16))
    · intro l R18q hle ha hd
      obtain ⟨d0, d1, _⟩ := hd
      have f83g : phG (true && ((((!y110) || (decide (y98.2 ≠ 0))) || (decide (y98.1 ≠ (y112.getD default)))) == false)) (phX (.int .i64 y104.2)) (l 83) R18q := d0 rfl
      exact gstep_guard (Gj := true) (Bj := ((!y110) || (decide (y98.2 ≠ 0))) || (decide (y98.1 ≠ (y112.getD default)))) rfl rfl rfl (gtrue (d1 rfl)) rfl (fun hG hB => ph_val (val_neq (show l 83 = (.int .i64 y104.2) from f83g.1 (gandT rfl hB)) rfl))
    · intro l R19q hle ha hd
      obtain ⟨d0, d1, _⟩ := hd
      have f82 : l 82 = (.bool (((!y110) || (decide (y98.2 ≠ 0))) || (decide (y98.1 ≠ (y112.getD default))))) := d0 rfl
      have f84g : phG (true && ((((!y110) || (decide (y98.2 ≠ 0))) || (decide (y98.1 ≠ (y112.getD default)))) == false)) (phX (.bool (decide (y104.2 ≠ 0)))) (l 84) R19q := d1 rfl
      exact gstep_plain rfl rfl rfl (ph_val (val_or f82 rfl (fun hb => (show l 84 = (.bool (decide (y104.2 ≠ 0))) from f84g.1 (gandT rfl hb)))))
    · intro l R20q hle ha hd
      obtain ⟨d0, d1, _⟩ := hd
      have f85 : l 85 = (.bool ((((!y110) || (decide (y98.2 ≠ 0))) || (decide (y98.1 ≠ (y112.getD default)))) || (decide (y104.2 ≠ 0)))) := d0 rfl
      exact gstep_plain rfl rfl rfl (ph_val (val_move f85))
    · intro l R21q hle ha hd
      obtain ⟨d0, _⟩ := hd
      have a15 : l 15 = (.bool y104.1) := ha 15 rfl
      exact gstep_guard (Gj := true) (Bj := (((!y110) || (decide (y98.2 ≠ 0))) || (decide (y98.1 ≠ (y112.getD default)))) || (decide (y104.2 ≠ 0))) rfl rfl rfl (gtrue (d0 rfl)) rfl (fun hG hB => ph_val (val_move a15))
    · intro l R22q hle ha hd
      obtain ⟨d0, d1, _⟩ := hd
      have f87g : phG (true && (((((!y110) || (decide (y98.2 ≠ 0))) || (decide (y98.1 ≠ (y112.getD default)))) || (decide (y104.2 ≠ 0))) == false)) (phX (.bool y104.1)) (l 87) R22q := d0 rfl
      exact gstep_guard (Gj := true) (Bj := (((!y110) || (decide (y98.2 ≠ 0))) || (decide (y98.1 ≠ (y112.getD default)))) || (decide (y104.2 ≠ 0))) rfl rfl rfl (gtrue (d1 rfl)) rfl (fun hG hB => ph_val (val_not (show l 87 = (.bool y104.1) from f87g.1 (gandT rfl hB))))
    · intro l R23q hle ha hd
      obtain ⟨d0, d1, _⟩ := hd
      have f86 : l 86 = (.bool ((((!y110) || (decide (y98.2 ≠ 0))) || (decide (y98.1 ≠ (y112.getD default)))) || (decide (y104.2 ≠ 0)))) := d0 rfl
      have f88g : phG (true && (((((!y110) || (decide (y98.2 ≠ 0))) || (decide (y98.1 ≠ (y112.getD default)))) || (decide (y104.2 ≠ 0))) == false)) (phX (.bool (!y104.1))) (l 88) R23q := d1 rfl
      exact gstep_plain rfl rfl rfl (ph_val (val_or f86 rfl (fun hb => (show l 88 = (.bool (!y104.1)) from f88g.1 (gandT rfl hb)))))
    intro v116 h117
    intro v118 h119
    intro v120 h121
    intro v122 h123
    intro v124 h125
    intro v126 h127
    intro v128 h129
    intro v130 h131
    intro v132 h133
    intro v134 h135
    intro v136 h137
    intro v138 h139
    intro v140 h141
    intro v142 h143
    intro v144 h145
    intro v146 h147
    intro v148 h149
    intro v150 h151
    intro v152 h153
    intro v154 h155
    intro v156 h157
    intro v158 h159
    intro v160 h161
    intro v162 h163
    obtain rfl := Eq.symm h117
    obtain rfl := Eq.symm h119
    obtain rfl := Eq.symm h121
    obtain rfl := Eq.symm h123
    obtain rfl := Eq.symm h125
    obtain rfl := Eq.symm h127
    obtain rfl := Eq.symm h133
    obtain rfl := Eq.symm h135
    obtain rfl := Eq.symm h147
    obtain rfl := Eq.symm h149
    obtain rfl := Eq.symm h155
    obtain rfl := Eq.symm h157
    obtain rfl := Eq.symm h163
    refine wo_nil ?_
    refine wg_cond rfl (fun e164 => ?_) (fun e164 => ?_)
    · replace hd0 := sel_t e164 hd0; clear e164
      refine wg_seq ?_
      refine wg_region ?_
      refine wo_v rfl (val_assign (v := (.bool false)) rfl) ?_
      refine wo_nil ?_
      refine wg_ret ?_
      obtain rfl := Option.some.inj hd0
      refine body_end (D := []) (J := [box b94 [(.int .i64 y86.1.inputs), (.int .i64 y86.1.outputs), v96] 27, box b37 [(.int .i64 y29.1.inputs), (.int .i64 y29.1.outputs), v39] 27, box b17 [(.int .i64 y11.inputs), (.int .i64 y11.outputs), v19] 27]) (rs := [.tmp 6]) (vs := [(.bool false)]) (((((((((le4.trans le8).trans le16).trans le28).trans le34).trans le52).trans le91).trans le103).trans le109).trans le115) rfl rfl ⟨rfl, trivial⟩ ?_
      exact ⟨rfl, rfl⟩
    · replace hd0 := sel_f e164 hd0; clear e164
      refine wg_skip ?_
      refine wg_seq ?_
      refine wg_region ?_
      refine wo_v rfl (val_fieldB fd27_2 rfl) ?_
      refine wo_v rfl (val_loadB (i := 2) ag25 rfl rfl rfl) ?_
      refine wo_v rfl (val_lenR rfl Try.underlying25 rfl (sl_s (h20.mono ((((((le28.trans le34).trans le52).trans le91).trans le103).trans le109).trans le115)))) ?_
      refine wo_v rfl (val_assign (v := (.int .i64 (↑y11.rows.length : Int))) rfl) ?_
      refine wo_nil ?_
      refine wg_seq ?_
      refine wg_region ?_
      refine wo_v rfl (val_assign (v := (.slice none 0 0)) rfl) ?_
      refine wo_nil ?_
      replace hd0 := bd_some hd0; obtain ⟨o165, hd1, hd0⟩ := hd0
      refine wg_meet (γ := (List Int) × Value × Frag) true [19, 93, 94, 95, 98, 99, 100, 101, 18, 96, 97] (fun g => [(18, g.2.1)]) (fun g => [box b17 [(.int .i64 y11.inputs), (.int .i64 y11.outputs), v19] 27, box b37 [(.int .i64 y29.1.inputs), (.int .i64 y29.1.outputs), v39] 27, box b94 [(.int .i64 y86.1.inputs), (.int .i64 y86.1.outputs), v96] 27, g.2.2] ++ A) (fun g R => o165 = g.1 ∧ ORep (tInt .i64) R g.2.2 g.2.1 g.1 ∧ True) ?_ ?_
      ·
        refine wg_seq ?_
        refine wg_region ?_
        refine wo_v rfl (val_assign (v := (.int .i64 0)) rfl) ?_
        refine wo_nil ?_
        refine wg_block ?_
        refine wg_emp ?_
        refine wg_loopS (γ := Nat × (List Int) × Int × Value × Frag) true [93, 94, 95, 98, 99, 100, 101, 18, 96, 97, 19] (fun g => [(18, g.2.2.2.1), (19, (.int .i64 g.2.2.1))]) (fun g => [box b17 [(.int .i64 y11.inputs), (.int .i64 y11.outputs), v19] 27, box b37 [(.int .i64 y29.1.inputs), (.int .i64 y29.1.outputs), v39] 27, box b94 [(.int .i64 y86.1.inputs), (.int .i64 y86.1.outputs), v96] 27, g.2.2.2.2] ++ A) (fun g R => gauntletlaw06_WalksCanonical_L1 N y11 g.1 g.2.1 g.2.2.1 = some o165 ∧ ORep (tInt .i64) R g.2.2.2.2 g.2.2.2.1 g.2.1 ∧ True) (fun g => g.1) (N, ([] : List Int), 0, (.slice none 0 0), emp) ⟨rfl, rfl, trivial⟩ ⟨[], (pk 3 rfl (pk 2 rfl (pk 1 rfl (pk 0 rfl (List.Perm.refl _)))))⟩ ⟨hd1, (orep_emp (T := (tInt .i64))), trivial⟩ (fun _ => rfl) ?_
        clear hd1
        rintro ⟨F173, x174, x175, v178, f179⟩ j197 D198 R176 hD199 le177 ⟨hd1, h180, _⟩
        obtain rfl := hD199 rfl
        rcases F173 with _ | F173
        · exact none_elim hd1
        replace hd1 : gauntletlaw06_WalksCanonical_L1 N y11 (F173 + 1) x174 x175 = some o165 := hd1; rw [gauntletlaw06_WalksCanonical_L1] at hd1
        refine wg_seq ?_
        refine wg_seq ?_
        refine wg_region ?_
        refine wo_v rfl (val_move (v := (.int .i64 x175)) rfl) ?_
        refine wo_v rfl (val_move (v := (.int .i64 (↑y11.rows.length : Int))) rfl) ?_
        refine wo_v rfl (val_lss rfl rfl) ?_
        refine wo_nil ?_
        refine wg_cond rfl (fun e182 => ?_) (fun e182 => ?_)
        · replace hd1 := sel_t e182 hd1; clear e182
          refine wg_skip ?_
          refine wg_seq ?_
          refine wg_block ?_
          refine wg_region ?_
          refine wo_v rfl (val_move (v := v178) rfl) ?_
          refine wo_v rfl (val_move (v := (.int .i64 x175)) rfl) ?_
          refine wo_lit (T := (tInt .i64)) (X := ([x175] : List Int)) (ps := [(0, (.int .i64 x175))]) (css := [[(.int .i64 x175)]]) rfl Try.underlying36 zo3 rfl rfl (lit_reps ⟨rfl, trivial⟩) rfl rfl (by decide) fun v183 f184 cap185 h186 => ?_
          refine wo_freeze (i := 0) rfl h186 fun R188 le189 h190 => ?_
          have h191 : VRep (tSl true (tInt .i64)) R188 v183 ([x175] : List Int) := (sl_t h190 cap185)
          have g192 := (gd_some hd1).1; replace hd1 := (gd_some hd1).2
          refine wo_append (i := 3) (X := x174) (Y := ([x175] : List Int)) rfl Try.underlying36 zo3 rfl rfl rfl (h180.mono le189) (sl_s (Sub.v (B := (tSl false (tInt .i64))) (sub_sl Sub.refl (fun _ => rfl)) h191)) g192.1 g192.2 fun v193 f194 h195 => ?_
          refine wo_v rfl (val_assign (v := v193) rfl) ?_
          refine wo_nil ?_
          refine wg_region ?_
          refine wo_v rfl (val_move (v := (.int .i64 x175)) rfl) ?_
          have g196 := (gd_some hd1).1; replace hd1 := (gd_some hd1).2
          refine wo_v rfl (val_add rfl rfl g196) ?_
          refine wo_v rfl (val_assign (v := (.int .i64 (x175 + 1))) rfl) ?_
          refine wo_nil ?_
          exact ⟨(fun _ => rfl), le189, (by repeat (first | exact off_self | refine off_upd rfl ?_ | refine off_setl rfl ?_ | refine off_mask_sub rfl ?_)), (F173, (x174 ++ ([x175] : List Int)), x175 + 1, v193, f194), Nat.lt_succ_self _, ⟨rfl, rfl, trivial⟩, ⟨[], List.Perm.refl _⟩, hd1, h195, trivial⟩
        · replace hd1 := sel_f e182 hd1; clear e182
          refine wg_exit ?_
          exact ⟨(fun _ => rfl), le177, (by repeat (first | exact off_self | refine off_upd rfl ?_ | refine off_setl rfl ?_ | refine off_mask_sub rfl ?_)), (x174, v178, f179), ⟨rfl, trivial⟩, ⟨[], List.Perm.refl _⟩, (Option.some.inj hd1).symm, h180, trivial⟩
      ·
        rintro ⟨o165, v168, f169⟩ j200 D201 R166 hD202 le167 ⟨rfl, h170, _⟩
        obtain rfl := hD202 rfl
        replace hd0 := bd_some hd0; obtain ⟨o203, hd1, hd0⟩ := hd0
        refine wg_meet (γ := (List Int) × Frag) true [20, 102, 103, 104, 105, 106, 107, 108, 109, 110, 111, 112, 113, 114, 117, 118, 119, 120, 121, 122, 123, 124, 125, 126, 127, 128, 129, 130, 131, 132, 133, 134, 135, 21, 22, 136, 137, 138, 139, 140, 141, 142, 143, 144, 145, 146, 147, 148, 149, 115, 116] (fun g => []) (fun g => [box b17 [(.int .i64 y11.inputs), (.int .i64 y11.outputs), v19] 27, box b37 [(.int .i64 y29.1.inputs), (.int .i64 y29.1.outputs), v39] 27, box b94 [(.int .i64 y86.1.inputs), (.int .i64 y86.1.outputs), v96] 27, g.2] ++ A) (fun g R => o203 = g.1 ∧ ORep (tInt .i64) R g.2 v168 g.1 ∧ True) ?_ ?_
        ·
          refine wg_seq ?_
          refine wg_region ?_
          refine wo_v rfl (val_assign (v := (.int .i64 0)) rfl) ?_
          refine wo_nil ?_
          refine wg_block ?_
          refine wg_loopS (γ := Nat × Int × (List Int) × Frag) true [102, 103, 104, 105, 106, 107, 108, 109, 110, 111, 112, 113, 114, 117, 118, 119, 120, 121, 122, 123, 124, 125, 126, 127, 128, 129, 130, 131, 132, 133, 134, 135, 21, 22, 136, 137, 138, 139, 140, 141, 142, 143, 144, 145, 146, 147, 148, 149, 115, 116, 20] (fun g => [(20, (.int .i64 g.2.1))]) (fun g => [box b17 [(.int .i64 y11.inputs), (.int .i64 y11.outputs), v19] 27, box b37 [(.int .i64 y29.1.inputs), (.int .i64 y29.1.outputs), v39] 27, box b94 [(.int .i64 y86.1.inputs), (.int .i64 y86.1.outputs), v96] 27, g.2.2.2] ++ A) (fun g R => gauntletlaw06_WalksCanonical_L2 N swaps y11 g.1 g.2.1 g.2.2.1 = some o203 ∧ ORep (tInt .i64) R g.2.2.2 v168 g.2.2.1 ∧ True) (fun g => g.1) (N, 0, o165, f169) ⟨rfl, trivial⟩ ⟨[], List.Perm.refl _⟩ ⟨hd1, h170, trivial⟩ (fun _ => rfl) ?_
          clear hd1
          rintro ⟨F208, x209, x210, f213⟩ j339 D340 R211 hD341 le212 ⟨hd1, h214, _⟩
          obtain rfl := hD341 rfl
          rcases F208 with _ | F208
          · exact none_elim hd1
          replace hd1 : gauntletlaw06_WalksCanonical_L2 N swaps y11 (F208 + 1) x209 x210 = some o203 := hd1; rw [gauntletlaw06_WalksCanonical_L2] at hd1
          refine wg_seq ?_
          refine wg_seq ?_
          have g215 := (gd_some hd1).1; replace hd1 := (gd_some hd1).2
          refine wg_guarded 13 [] [phX (.int .i64 x209), phX (.int .i64 (x209 + 1)), phX v_swaps, phX (.int .i64 (↑swaps.length : Int)), phX (.bool (decide ((x209 + 1) < (↑swaps.length : Int)))), phX (.bool (decide ((x209 + 1) < (↑swaps.length : Int)))), phG (true && ((decide ((x209 + 1) < (↑swaps.length : Int))) == true)) (phX (.int .i64 x209)), phG (true && ((decide ((x209 + 1) < (↑swaps.length : Int))) == true)) (phX (.bool (decide (x209 < 20)))), phX (.bool ((decide ((x209 + 1) < (↑swaps.length : Int))) && (decide (x209 < 20)))), phX (.bool ((decide ((x209 + 1) < (↑swaps.length : Int))) && (decide (x209 < 20)))), phG (true && (((decide ((x209 + 1) < (↑swaps.length : Int))) && (decide (x209 < 20))) == true)) (phX (.int .i64 (↑y11.rows.length : Int))), phG (true && (((decide ((x209 + 1) < (↑swaps.length : Int))) && (decide (x209 < 20))) == true)) (phX (.bool (decide (1 < (↑y11.rows.length : Int))))), phX (.bool (((decide ((x209 + 1) < (↑swaps.length : Int))) && (decide (x209 < 20))) && (decide (1 < (↑y11.rows.length : Int)))))] (by kernel_rfl) (by kernel_rfl) (monoOk_of ⟨mono_x, mono_x, mono_x, mono_x, mono_x, mono_x, (mono_g mono_x), (mono_g mono_x), mono_x, mono_x, (mono_g mono_x), (mono_g mono_x), mono_x, trivial⟩) ⟨?_, ?_, ?_, ?_, ?_, ?_, ?_, ?_, ?_, ?_, ?_, ?_, ?_, trivial⟩ fun R216 le217 => ?_
          · intro l R0q hle ha hd
            have a20 : l 20 = (.int .i64 x209) := ha 20 rfl
            exact gstep_plain rfl rfl rfl (ph_val (val_move a20))
          · intro l R1q hle ha hd
            obtain ⟨d0, _⟩ := hd
            have f102 : l 102 = (.int .i64 x209) := d0 rfl
            exact gstep_plain rfl rfl rfl (ph_val (val_add f102 rfl g215))
          · intro l R2q hle ha hd
            have a2 : l 2 = v_swaps := ha 2 rfl
            exact gstep_plain rfl rfl rfl (ph_val (val_move a2))
          · intro l R3q hle ha hd
            obtain ⟨d0, _⟩ := hd
            have f104 : l 104 = v_swaps := d0 rfl
            exact gstep_plain rfl rfl rfl (ph_val (val_lenR rfl Try.underlying52 f104 (sl_s ((h_swaps.mono (((((((((((le4.trans le8).trans le16).trans le28).trans le34).trans le52).trans le91).trans le103).trans le109).trans le115).trans le167).trans le212)).mono hle))))
          · intro l R4q hle ha hd
            obtain ⟨d0, d1, _⟩ := hd
            have f103 : l 103 = (.int .i64 (x209 + 1)) := d0 rfl
            have f105 : l 105 = (.int .i64 (↑swaps.length : Int)) := d1 rfl
            exact gstep_plain rfl rfl rfl (ph_val (val_lss f103 f105))
          · intro l R5q hle ha hd
            obtain ⟨d0, _⟩ := hd
            have f106 : l 106 = (.bool (decide ((x209 + 1) < (↑swaps.length : Int)))) := d0 rfl
            exact gstep_plain rfl rfl rfl (ph_val (val_move f106))
          · intro l R6q hle ha hd
            obtain ⟨d0, _⟩ := hd
            have a20 : l 20 = (.int .i64 x209) := ha 20 rfl
            exact gstep_guard (Gj := true) (Bj := decide ((x209 + 1) < (↑swaps.length : Int))) rfl rfl rfl (gtrue (d0 rfl)) rfl (fun hG hB => ph_val (val_move a20))
          · intro l R7q hle ha hd
            obtain ⟨d0, d1, _⟩ := hd
            have f108g : phG (true && ((decide ((x209 + 1) < (↑swaps.length : Int))) == true)) (phX (.int .i64 x209)) (l 108) R7q := d0 rfl
            exact gstep_guard (Gj := true) (Bj := decide ((x209 + 1) < (↑swaps.length : Int))) rfl rfl rfl (gtrue (d1 rfl)) rfl (fun hG hB => ph_val (val_lss (show l 108 = (.int .i64 x209) from f108g.1 (gandT rfl hB)) rfl))
          · intro l R8q hle ha hd
            obtain ⟨d0, d1, _⟩ := hd
            have f107 : l 107 = (.bool (decide ((x209 + 1) < (↑swaps.length : Int)))) := d0 rfl
            have f109g : phG (true && ((decide ((x209 + 1) < (↑swaps.length : Int))) == true)) (phX (.bool (decide (x209 < 20)))) (l 109) R8q := d1 rfl
            exact gstep_plain rfl rfl rfl (ph_val (val_and f107 (fun hb => (show l 109 = (.bool (decide (x209 < 20))) from f109g.1 (gandT rfl hb))) rfl))
          · intro l R9q hle ha hd
            obtain ⟨d0, d1, _⟩ := hd
            have f110 : l 110 = (.bool ((decide ((x209 + 1) < (↑swaps.length : Int))) && (decide (x209 < 20)))) := d0 rfl
            exact gstep_plain rfl rfl rfl (ph_val (val_move f110))
          · intro l R10q hle ha hd
            obtain ⟨d0, _⟩ := hd
            have a17 : l 17 = (.int .i64 (↑y11.rows.length : Int)) := ha 17 rfl
            exact gstep_guard (Gj := true) (Bj := (decide ((x209 + 1) < (↑swaps.length : Int))) && (decide (x209 < 20))) rfl rfl rfl (gtrue (d0 rfl)) rfl (fun hG hB => ph_val (val_move a17))
          · intro l R11q hle ha hd
            obtain ⟨d0, d1, _⟩ := hd
            have f112g : phG (true && (((decide ((x209 + 1) < (↑swaps.length : Int))) && (decide (x209 < 20))) == true)) (phX (.int .i64 (↑y11.rows.length : Int))) (l 112) R11q := d0 rfl
            exact gstep_guard (Gj := true) (Bj := (decide ((x209 + 1) < (↑swaps.length : Int))) && (decide (x209 < 20))) rfl rfl rfl (gtrue (d1 rfl)) rfl (fun hG hB => ph_val (val_gtr (show l 112 = (.int .i64 (↑y11.rows.length : Int)) from f112g.1 (gandT rfl hB)) rfl))
          · intro l R12q hle ha hd
            obtain ⟨d0, d1, _⟩ := hd
            have f111 : l 111 = (.bool ((decide ((x209 + 1) < (↑swaps.length : Int))) && (decide (x209 < 20)))) := d0 rfl
            have f113g : phG (true && (((decide ((x209 + 1) < (↑swaps.length : Int))) && (decide (x209 < 20))) == true)) (phX (.bool (decide (1 < (↑y11.rows.length : Int))))) (l 113) R12q := d1 rfl
            exact gstep_plain rfl rfl rfl (ph_val (val_and f111 (fun hb => (show l 113 = (.bool (decide (1 < (↑y11.rows.length : Int)))) from f113g.1 (gandT rfl hb))) rfl))
          intro v218 h219
          intro v220 h221
          intro v222 h223
          intro v224 h225
          intro v226 h227
          intro v228 h229
          intro v230 h231
          intro v232 h233
          intro v234 h235
          intro v236 h237
          intro v238 h239
          intro v240 h241
          intro v242 h243
          obtain rfl := Eq.symm h219
          obtain rfl := Eq.symm h221
          obtain rfl := Eq.symm h223
          obtain rfl := Eq.symm h225
          obtain rfl := Eq.symm h227
          obtain rfl := Eq.symm h229
          obtain rfl := Eq.symm h235
          obtain rfl := Eq.symm h237
          obtain rfl := Eq.symm h243
          refine wo_nil ?_
          refine wg_cond rfl (fun e244 => ?_) (fun e244 => ?_)
          · replace hd1 := sel_t e244 hd1; clear e244
            refine wg_skip ?_
            refine wg_seq ?_
            refine wg_block ?_
            refine wg_seq ?_
            have g245 := (gd_some hd1).1; replace hd1 := (gd_some hd1).2
            have g246 := (gd_some hd1).1; replace hd1 := (gd_some hd1).2
            have g247 := (gd_some hd1).1; replace hd1 := (gd_some hd1).2
            have g248 := (gd_some hd1).1; replace hd1 := (gd_some hd1).2
            have g249 := (gd_some hd1).1; replace hd1 := (gd_some hd1).2
            have g250 := (gd_some hd1).1; replace hd1 := (gd_some hd1).2
            have g251 := (gd_some hd1).1; replace hd1 := (gd_some hd1).2
            have g252 := (gd_some hd1).1; replace hd1 := (gd_some hd1).2
            have g253 := (gd_some hd1).1; replace hd1 := (gd_some hd1).2
            have g254 := (gd_some hd1).1; replace hd1 := (gd_some hd1).2
            have g255 := (gd_some hd1).1; replace hd1 := (gd_some hd1).2
            refine wg_drawn 21 [] [phX v_swaps, phX (.int .i64 x209), phP (tInt .u8) (ix swaps x209), phX (.int .u8 (ix swaps x209)), phX (.int .i64 (ix swaps x209)), phX (.int .i64 (↑y11.rows.length : Int)), phX (.int .i64 ((↑y11.rows.length : Int) - 1)), phX (.int .i64 ((ix swaps x209) % ((↑y11.rows.length : Int) - 1))), phX (.int .i64 ((1 : Int) + ((ix swaps x209) % ((↑y11.rows.length : Int) - 1)))), phX v_swaps, phX (.int .i64 x209), phX (.int .i64 (x209 + 1)), phP (tInt .u8) (ix swaps (x209 + 1)), phX (.int .u8 (ix swaps (x209 + 1))), phX (.int .i64 (ix swaps (x209 + 1))), phX (.int .i64 (↑y11.rows.length : Int)), phX (.int .i64 ((↑y11.rows.length : Int) - 1)), phX (.int .i64 ((ix swaps (x209 + 1)) % ((↑y11.rows.length : Int) - 1))), phX (.int .i64 ((1 : Int) + ((ix swaps (x209 + 1)) % ((↑y11.rows.length : Int) - 1)))), phX (.int .i64 ((1 : Int) + ((ix swaps x209) % ((↑y11.rows.length : Int) - 1)))), phX (.int .i64 ((1 : Int) + ((ix swaps (x209 + 1)) % ((↑y11.rows.length : Int) - 1))))] mixed (by kernel_rfl) (monoOk_of ⟨mono_x, mono_x, mono_p, mono_x, mono_x, mono_x, mono_x, mono_x, mono_x, mono_x, mono_x, mono_x, mono_p, mono_x, mono_x, mono_x, mono_x, mono_x, mono_x, mono_x, mono_x, trivial⟩) ⟨?_, ?_, ?_, ?_, ?_, ?_, ?_, ?_, ?_, ?_, ?_, ?_, ?_, ?_, ?_, ?_, ?_, ?_, ?_, ?_, ?_, trivial⟩ fun R256 le257 => ?_
            · intro l R0q hle ha hd
              have a2 : l 2 = v_swaps := ha 2 rfl
              exact gstep_plain rfl rfl rfl (ph_val (val_move a2))
            · intro l R1q hle ha hd
              have a20 : l 20 = (.int .i64 x209) := ha 20 rfl
              exact gstep_plain rfl rfl rfl (ph_val (val_move a20))
            · intro l R2q hle ha hd
              obtain ⟨d0, d1, _⟩ := hd
              have f117 : l 117 = v_swaps := d0 rfl
              have f118 : l 118 = (.int .i64 x209) := d1 rfl
              exact gstep_plain rfl rfl rfl (ph_indexR (i := x209.toNat) sl52 f117 (sl_s ((h_swaps.mono ((((((((((((le4.trans le8).trans le16).trans le28).trans le34).trans le52).trans le91).trans le103).trans le109).trans le115).trans le167).trans le212).trans le217)).mono hle)) (idx_nonneg f118 g245.1) (okI_lt g245))
            · intro l R3q hle ha hd
              obtain ⟨d0, _⟩ := hd
              have f119 : phP (tInt .u8) (ix swaps x209) (l 119) R3q := d0 rfl
              exact gstep_plain rfl rfl rfl (ph_exact (ph_loadR ty5 rfl f119) (fun _ _ h => vrep_int.1 h))
            · intro l R4q hle ha hd
              obtain ⟨d0, _⟩ := hd
              have f120 : l 120 = (.int .u8 (ix swaps x209)) := d0 rfl
              exact gstep_plain rfl rfl rfl (ph_val (val_conv64 Try.underlying5 Try.underlying3 f120 g246))
            · intro l R5q hle ha hd
              have a17 : l 17 = (.int .i64 (↑y11.rows.length : Int)) := ha 17 rfl
              exact gstep_plain rfl rfl rfl (ph_val (val_move a17))
            · intro l R6q hle ha hd
              obtain ⟨d0, _⟩ := hd
              have f122 : l 122 = (.int .i64 (↑y11.rows.length : Int)) := d0 rfl
              exact gstep_plain rfl rfl rfl (ph_val (val_sub f122 rfl g247))
            · intro l R7q hle ha hd
              obtain ⟨d0, d1, _⟩ := hd
              have f121 : l 121 = (.int .i64 (ix swaps x209)) := d0 rfl
              have f123 : l 123 = (.int .i64 ((↑y11.rows.length : Int) - 1)) := d1 rfl
              exact gstep_plain rfl rfl rfl (ph_val (val_rem0 f121 f123 g248))
            · intro l R8q hle ha hd
              obtain ⟨d0, _⟩ := hd
              have f124 : l 124 = (.int .i64 ((ix swaps x209) % ((↑y11.rows.length : Int) - 1))) := d0 rfl
              exact gstep_plain rfl rfl rfl (ph_val (val_add rfl f124 g249))
            · intro l R9q hle ha hd
              obtain ⟨d0, _⟩ := hd
              have a2 : l 2 = v_swaps := ha 2 rfl
              exact gstep_plain rfl rfl rfl (ph_val (val_move a2))
            · intro l R10q hle ha hd
              obtain ⟨d0, _⟩ := hd
              have a20 : l 20 = (.int .i64 x209) := ha 20 rfl
              exact gstep_plain rfl rfl rfl (ph_val (val_move a20))
            · intro l R11q hle ha hd
              obtain ⟨d0, d1, _⟩ := hd
              have f127 : l 127 = (.int .i64 x209) := d0 rfl
              exact gstep_plain rfl rfl rfl (ph_val (val_add f127 rfl g250))
            · intro l R12q hle ha hd
              obtain ⟨d0, d1, d2, _⟩ := hd
              have f126 : l 126 = v_swaps := d0 rfl
              have f128 : l 128 = (.int .i64 (x209 + 1)) := d1 rfl
              exact gstep_plain rfl rfl rfl (ph_indexR (i := (x209 + 1).toNat) sl52 f126 (sl_s ((h_swaps.mono ((((((((((((le4.trans le8).trans le16).trans le28).trans le34).trans le52).trans le91).trans le103).trans le109).trans le115).trans le167).trans le212).trans le217)).mono hle)) (idx_nonneg f128 g251.1) (okI_lt g251))
            · intro l R13q hle ha hd
              obtain ⟨d0, d1, _⟩ := hd
              have f129 : phP (tInt .u8) (ix swaps (x209 + 1)) (l 129) R13q := d0 rfl
              exact gstep_plain rfl rfl rfl (ph_exact (ph_loadR ty5 rfl f129) (fun _ _ h => vrep_int.1 h))
            · intro l R14q hle ha hd
              obtain ⟨d0, d1, _⟩ := hd
              have f130 : l 130 = (.int .u8 (ix swaps (x209 + 1))) := d0 rfl
              exact gstep_plain rfl rfl rfl (ph_val (val_conv64 Try.underlying5 Try.underlying3 f130 g252))
            · intro l R15q hle ha hd
              obtain ⟨d0, _⟩ := hd
              have a17 : l 17 = (.int .i64 (↑y11.rows.length : Int)) := ha 17 rfl
              exact gstep_plain rfl rfl rfl (ph_val (val_move a17))
            · intro l R16q hle ha hd
              obtain ⟨d0, d1, _⟩ := hd
              have f132 : l 132 = (.int .i64 (↑y11.rows.length : Int)) := d0 rfl
              exact gstep_plain rfl rfl rfl (ph_val (val_sub f132 rfl g253))
            · intro l R17q hle ha hd
              obtain ⟨d0, d1, d2, _⟩ := hd
              have f131 : l 131 = (.int .i64 (ix swaps (x209 + 1))) := d0 rfl
              have f133 : l 133 = (.int .i64 ((↑y11.rows.length : Int) - 1)) := d1 rfl
              exact gstep_plain rfl rfl rfl (ph_val (val_rem0 f131 f133 g254))
            · intro l R18q hle ha hd
              obtain ⟨d0, d1, _⟩ := hd
              have f134 : l 134 = (.int .i64 ((ix swaps (x209 + 1)) % ((↑y11.rows.length : Int) - 1))) := d0 rfl
              exact gstep_plain rfl rfl rfl (ph_val (val_add rfl f134 g255))
            · intro l R19q hle ha hd
              obtain ⟨d0, d1, d2, d3, d4, d5, d6, d7, d8, d9, d10, d11, d12, d13, d14, d15, d16, d17, d18, d19, _⟩ := hd
              have f125 : l 125 = (.int .i64 ((1 : Int) + ((ix swaps x209) % ((↑y11.rows.length : Int) - 1)))) := d0 rfl
              exact gstep_plain rfl rfl rfl (ph_val (val_assign f125))
            · intro l R20q hle ha hd
              obtain ⟨d0, d1, d2, d3, d4, d5, d6, d7, d8, d9, d10, d11, d12, d13, d14, d15, d16, d17, d18, d19, d20, d21, _⟩ := hd
              have f135 : l 135 = (.int .i64 ((1 : Int) + ((ix swaps (x209 + 1)) % ((↑y11.rows.length : Int) - 1)))) := d0 rfl
              exact gstep_plain rfl rfl rfl (ph_val (val_assign f135))
            intro v258 h259
            intro v260 h261
            intro v262 h263
            intro v264 h265
            intro v266 h267
            intro v268 h269
            intro v270 h271
            intro v272 h273
            intro v274 h275
            intro v276 h277
            intro v278 h279
            intro v280 h281
            intro v282 h283
            intro v284 h285
            intro v286 h287
            intro v288 h289
            intro v290 h291
            intro v292 h293
            intro v294 h295
            intro v296 h297
            intro v298 h299
            obtain rfl := Eq.symm h259
            obtain rfl := Eq.symm h261
            obtain rfl := Eq.symm h265
            obtain rfl := Eq.symm h267
            obtain rfl := Eq.symm h269
            obtain rfl := Eq.symm h271
            obtain rfl := Eq.symm h273
            obtain rfl := Eq.symm h275
            obtain rfl := Eq.symm h277
            obtain rfl := Eq.symm h279
            obtain rfl := Eq.symm h281
            obtain rfl := Eq.symm h285
            obtain rfl := Eq.symm h287
            obtain rfl := Eq.symm h289
            obtain rfl := Eq.symm h291
            obtain rfl := Eq.symm h293
            obtain rfl := Eq.symm h295
            obtain rfl := Eq.symm h297
            obtain rfl := Eq.symm h299
            refine wo_nil ?_
            have g300 := (gd_some hd1).1; replace hd1 := (gd_some hd1).2
            have g301 := (gd_some hd1).1; replace hd1 := (gd_some hd1).2
            have g302 := (gd_some hd1).1; replace hd1 := (gd_some hd1).2
            have g303 := (gd_some hd1).1; replace hd1 := (gd_some hd1).2
            refine wg_free [13, 15] [(fun es => phX v168), (fun es => phX (.int .i64 ((1 : Int) + ((ix swaps x209) % ((↑y11.rows.length : Int) - 1))))), (fun es => phX v168), (fun es => phX (.int .i64 ((1 : Int) + ((ix swaps (x209 + 1)) % ((↑y11.rows.length : Int) - 1))))), (fun es => phX v168), (fun es => phX (.int .i64 ((1 : Int) + ((ix swaps (x209 + 1)) % ((↑y11.rows.length : Int) - 1))))), (fun es => (fun u _ => OPtr (tInt .i64) v168 x210 u ((1 : Int) + ((ix swaps (x209 + 1)) % ((↑y11.rows.length : Int) - 1))).toNat)), (fun es => phX (.int .i64 (ix x210 ((1 : Int) + ((ix swaps (x209 + 1)) % ((↑y11.rows.length : Int) - 1)))))), (fun es => phX v168), (fun es => phX (.int .i64 ((1 : Int) + ((ix swaps x209) % ((↑y11.rows.length : Int) - 1))))), (fun es => (fun u _ => OPtr (tInt .i64) v168 x210 u ((1 : Int) + ((ix swaps x209) % ((↑y11.rows.length : Int) - 1))).toNat)), (fun es => phX (.int .i64 (ix x210 ((1 : Int) + ((ix swaps x209) % ((↑y11.rows.length : Int) - 1)))))), (fun es => (fun u _ => OPtr (tInt .i64) v168 x210 u ((1 : Int) + ((ix swaps x209) % ((↑y11.rows.length : Int) - 1))).toNat)), (fun es => (fun _ _ => True)), (fun es => (fun u _ => OPtr (tInt .i64) v168 x210 u ((1 : Int) + ((ix swaps (x209 + 1)) % ((↑y11.rows.length : Int) - 1))).toNat)), (fun es => (fun _ _ => True))] (fun fl es R O => (fl = [false, false] ∧ O.Perm ([box b17 [(.int .i64 y11.inputs), (.int .i64 y11.outputs), v19] 27, box b37 [(.int .i64 y29.1.inputs), (.int .i64 y29.1.outputs), v39] 27, box b94 [(.int .i64 y86.1.inputs), (.int .i64 y86.1.outputs), v96] 27, f213] ++ A) ∧ True) ∨ (fl = [true, false] ∧ ∃ (f_o171 : Frag), O.Perm ([box b17 [(.int .i64 y11.inputs), (.int .i64 y11.outputs), v19] 27, box b37 [(.int .i64 y29.1.inputs), (.int .i64 y29.1.outputs), v39] 27, box b94 [(.int .i64 y86.1.inputs), (.int .i64 y86.1.outputs), v96] 27, f_o171] ++ A) ∧ ORep (tInt .i64) R f_o171 v168 (up x210 ((1 : Int) + ((ix swaps x209) % ((↑y11.rows.length : Int) - 1))) (ix x210 ((1 : Int) + ((ix swaps (x209 + 1)) % ((↑y11.rows.length : Int) - 1))))) ∧ True) ∨ (fl = [true, true] ∧ ∃ (f_o171 : Frag), O.Perm ([box b17 [(.int .i64 y11.inputs), (.int .i64 y11.outputs), v19] 27, box b37 [(.int .i64 y29.1.inputs), (.int .i64 y29.1.outputs), v39] 27, box b94 [(.int .i64 y86.1.inputs), (.int .i64 y86.1.outputs), v96] 27, f_o171] ++ A) ∧ ORep (tInt .i64) R f_o171 v168 (up (up x210 ((1 : Int) + ((ix swaps x209) % ((↑y11.rows.length : Int) - 1))) (ix x210 ((1 : Int) + ((ix swaps (x209 + 1)) % ((↑y11.rows.length : Int) - 1))))) ((1 : Int) + ((ix swaps (x209 + 1)) % ((↑y11.rows.length : Int) - 1))) (ix x210 ((1 : Int) + ((ix swaps x209) % ((↑y11.rows.length : Int) - 1))))) ∧ True)) mixed (by kernel_rfl) ⟨(monoE_of mono_x), (monoE_of mono_x), (monoE_of mono_x), (monoE_of mono_x), (monoE_of mono_x), (monoE_of mono_x), (monoE_of (fun _ _ _ _ h => h)), (monoE_of mono_x), (monoE_of mono_x), (monoE_of mono_x), (monoE_of (fun _ _ _ _ h => h)), (monoE_of mono_x), (monoE_of (fun _ _ _ _ h => h)), (fun _ _ _ _ _ h => h), (monoE_of (fun _ _ _ _ h => h)), (fun _ _ _ _ _ h => h), trivial⟩ (by
                rintro fl es R R' O hle (⟨rfl, hp, _⟩ | ⟨rfl, f_o171, hp, h_o171, _⟩ | ⟨rfl, f_o171, hp, h_o171, _⟩)
                · exact (.inl ⟨rfl, hp, trivial⟩)
                · exact (.inr (.inl ⟨rfl, f_o171, hp, (h_o171.mono hle), trivial⟩))
                · exact (.inr (.inr ⟨rfl, f_o171, hp, (h_o171.mono hle), trivial⟩))) ⟨(fun _ _ _ _ _ h => h), (fun _ _ _ _ _ h => h), (fun _ _ _ _ _ h => h), (fun _ _ _ _ _ h => h), (fun _ _ _ _ _ h => h), (fun _ _ _ _ _ h => h), (fun _ _ _ _ _ h => h), (fun _ _ _ _ _ h => h), (fun _ _ _ _ _ h => h), (fun _ _ _ _ _ h => h), (fun _ _ _ _ _ h => h), (fun _ _ _ _ _ h => h), (fun _ _ _ _ _ h => h), (fun _ _ _ _ _ h => h), (fun _ _ _ _ _ h => h), (fun _ _ _ _ _ h => h), trivial⟩ (fun es => .inl ⟨rfl, (List.Perm.refl _), trivial⟩) ⟨?_, ?_, ?_, ?_, ?_, ?_, ?_, ?_, ?_, ?_, ?_, ?_, ?_, ?_, ?_, ?_, trivial⟩ fun R304 le305 => ?_
            · intro l R0q fl O hle ha hd hk hW
              have a18 : l 18 = v168 := ha 18 rfl
              exact ph_val (val_move a18)
            · intro l R1q fl O hle ha hd hk hW
              have a21 : l 21 = (.int .i64 ((1 : Int) + ((ix swaps x209) % ((↑y11.rows.length : Int) - 1)))) := ha 21 rfl
              exact ph_val (val_move a21)
            · intro l R2q fl O hle ha hd hk hW
              obtain ⟨d0, _⟩ := hd
              have a18 : l 18 = v168 := ha 18 rfl
              exact ph_val (val_move a18)
            · intro l R3q fl O hle ha hd hk hW
              obtain ⟨d0, _⟩ := hd
              have a22 : l 22 = (.int .i64 ((1 : Int) + ((ix swaps (x209 + 1)) % ((↑y11.rows.length : Int) - 1)))) := ha 22 rfl
              exact ph_val (val_move a22)
            · intro l R4q fl O hle ha hd hk hW
              have a18 : l 18 = v168 := ha 18 rfl
              exact ph_val (val_move a18)
            · intro l R5q fl O hle ha hd hk hW
              have a22 : l 22 = (.int .i64 ((1 : Int) + ((ix swaps (x209 + 1)) % ((↑y11.rows.length : Int) - 1)))) := ha 22 rfl
              exact ph_val (val_move a22)
            · intro l R6q fl O hle ha hd hk hW
              obtain ⟨d0, d1, _⟩ := hd
              have f140 : l 140 = v168 := d0 rfl
              have f141 : l 141 = (.int .i64 ((1 : Int) + ((ix swaps (x209 + 1)) % ((↑y11.rows.length : Int) - 1)))) := d1 rfl
              exact ph_indexO (i := ((1 : Int) + ((ix swaps (x209 + 1)) % ((↑y11.rows.length : Int) - 1))).toNat) sl36 f140 ((h214.mono (le217.trans le257)).mono hle) (idx_nonneg f141 g300.1) (okI_lt g300)
            · intro l R7q fl O hle ha hd hk hW
              obtain ⟨d0, _⟩ := hd
              have f142 : (fun u _ => OPtr (tInt .i64) v168 x210 u ((1 : Int) + ((ix swaps (x209 + 1)) % ((↑y11.rows.length : Int) - 1))).toNat) (l 142) R7q := d0 rfl
              rcases hW with ⟨rfl, hp, _⟩ | ⟨rfl, f_o171, hp, h_o171, _⟩ | ⟨rfl, f_o171, hp, h_o171, _⟩
              · exact eff_permP hp (ph_exact (ph_loadO (i := ((1 : Int) + ((ix swaps (x209 + 1)) % ((↑y11.rows.length : Int) - 1))).toNat) (j := 3) ty3 ((h214.mono (le217.trans le257)).mono hle) rfl rfl f142 (okI_lt g300)) (fun _ _ h => vrep_int.1 h))
              · exact kn_no hk (by kernel_rfl)
              · exact kn_no hk (by kernel_rfl)
            · intro l R8q fl O hle ha hd hk hW
              have a18 : l 18 = v168 := ha 18 rfl
              exact ph_val (val_move a18)
            · intro l R9q fl O hle ha hd hk hW
              have a21 : l 21 = (.int .i64 ((1 : Int) + ((ix swaps x209) % ((↑y11.rows.length : Int) - 1)))) := ha 21 rfl
              exact ph_val (val_move a21)
            · intro l R10q fl O hle ha hd hk hW
              obtain ⟨d0, d1, _⟩ := hd
              have f144 : l 144 = v168 := d0 rfl
              have f145 : l 145 = (.int .i64 ((1 : Int) + ((ix swaps x209) % ((↑y11.rows.length : Int) - 1)))) := d1 rfl
              exact ph_indexO (i := ((1 : Int) + ((ix swaps x209) % ((↑y11.rows.length : Int) - 1))).toNat) sl36 f144 ((h214.mono (le217.trans le257)).mono hle) (idx_nonneg f145 g301.1) (okI_lt g301)
            · intro l R11q fl O hle ha hd hk hW
              obtain ⟨d0, _⟩ := hd
              have f146 : (fun u _ => OPtr (tInt .i64) v168 x210 u ((1 : Int) + ((ix swaps x209) % ((↑y11.rows.length : Int) - 1))).toNat) (l 146) R11q := d0 rfl
              rcases hW with ⟨rfl, hp, _⟩ | ⟨rfl, f_o171, hp, h_o171, _⟩ | ⟨rfl, f_o171, hp, h_o171, _⟩
              · exact eff_permP hp (ph_exact (ph_loadO (i := ((1 : Int) + ((ix swaps x209) % ((↑y11.rows.length : Int) - 1))).toNat) (j := 3) ty3 ((h214.mono (le217.trans le257)).mono hle) rfl rfl f146 (okI_lt g301)) (fun _ _ h => vrep_int.1 h))
              · exact kn_no hk (by kernel_rfl)
              · exact kn_no hk (by kernel_rfl)
            · intro l R12q fl O hle ha hd hk hW
              obtain ⟨d0, d1, d2, d3, d4, d5, d6, d7, d8, d9, d10, d11, d12, d13, _⟩ := hd
              have f136 : l 136 = v168 := d0 rfl
              have f137 : l 137 = (.int .i64 ((1 : Int) + ((ix swaps x209) % ((↑y11.rows.length : Int) - 1)))) := d1 rfl
              exact ph_indexO (i := ((1 : Int) + ((ix swaps x209) % ((↑y11.rows.length : Int) - 1))).toNat) sl36 f136 ((h214.mono (le217.trans le257)).mono hle) (idx_nonneg f137 g302.1) (okI_lt g302)
            · intro l R13q fl O hle ha hd hk hf hW
              obtain ⟨d0, d1, d2, d3, d4, d5, d6, d7, d8, d9, d10, d11, d12, d13, _⟩ := hd
              have f148 : (fun u _ => OPtr (tInt .i64) v168 x210 u ((1 : Int) + ((ix swaps x209) % ((↑y11.rows.length : Int) - 1))).toNat) (l 148) R13q := d0 rfl
              have f143 : l 143 = (.int .i64 (ix x210 ((1 : Int) + ((ix swaps (x209 + 1)) % ((↑y11.rows.length : Int) - 1))))) := d1 rfl
              rcases hW with ⟨rfl, hp, _⟩ | ⟨rfl, f_o171, hp, h_o171, _⟩ | ⟨rfl, f_o171, hp, h_o171, _⟩
              · refine eff_perm hp ?_
                refine Eff.mono (free_storeO (i := ((1 : Int) + ((ix swaps x209) % ((↑y11.rows.length : Int) - 1))).toNat) (j := 3) ty3 ((h214.mono (le217.trans le257)).mono hle) rfl rfl f148 (okI_lt g302) f143 (vrep_int.2 rfl)) ?_
                rintro v R' O' hle' ⟨rfl, f, rfl, ho⟩
                exact ⟨trivial, .inr (.inl ⟨rfl, f, (List.Perm.refl _), ho, trivial⟩)⟩
              · cases hf
              · cases hf
            · intro l R14q fl O hle ha hd hk hW
              obtain ⟨d0, d1, d2, d3, d4, d5, d6, d7, d8, d9, d10, d11, d12, d13, d14, d15, _⟩ := hd
              have f138 : l 138 = v168 := d0 rfl
              have f139 : l 139 = (.int .i64 ((1 : Int) + ((ix swaps (x209 + 1)) % ((↑y11.rows.length : Int) - 1)))) := d1 rfl
              exact ph_indexO (i := ((1 : Int) + ((ix swaps (x209 + 1)) % ((↑y11.rows.length : Int) - 1))).toNat) sl36 f138 ((h214.mono (le217.trans le257)).mono hle) (idx_nonneg f139 g303.1) (okI_lt g303)
            · intro l R15q fl O hle ha hd hk hf hW
              obtain ⟨d0, d1, d2, d3, d4, d5, d6, d7, d8, d9, d10, d11, d12, d13, d14, d15, d16, _⟩ := hd
              have f149 : (fun u _ => OPtr (tInt .i64) v168 x210 u ((1 : Int) + ((ix swaps (x209 + 1)) % ((↑y11.rows.length : Int) - 1))).toNat) (l 149) R15q := d0 rfl
              have f147 : l 147 = (.int .i64 (ix x210 ((1 : Int) + ((ix swaps x209) % ((↑y11.rows.length : Int) - 1))))) := d1 rfl
              rcases hW with ⟨rfl, hp, _⟩ | ⟨rfl, f_o171, hp, h_o171, _⟩ | ⟨rfl, f_o171, hp, h_o171, _⟩
              · exact kn_no hk (by kernel_rfl)
              · refine eff_perm hp ?_
                refine Eff.mono (free_storeO (i := ((1 : Int) + ((ix swaps (x209 + 1)) % ((↑y11.rows.length : Int) - 1))).toNat) (j := 3) ty3 h_o171 rfl rfl (optr_set f149) (by rw [up, List.length_set]; exact okI_lt g303) f147 (vrep_int.2 rfl)) ?_
                rintro v R' O' hle' ⟨rfl, f, rfl, ho⟩
                exact ⟨trivial, .inr (.inr ⟨rfl, f, (List.Perm.refl _), ho, trivial⟩)⟩
              · cases hf
            intro v306
            intro v307
            intro v308
            intro v309
            intro v310
            intro v311
            intro v312
            intro v313
            intro v314
            intro v315
            intro v316
            intro v317
            intro v318
            intro v319
            intro h320
            intro h321
            intro h322
            intro h323
            intro h324
            intro h325
            intro h326
            intro h327
            intro h328
            intro h329
            intro h330
            intro h331
            intro h332
            intro h333
            rintro OO334 (⟨e, _⟩ | ⟨e, _⟩ | ⟨_, f335, hp, h336, _⟩)
            · cases e
            · cases e
            refine ⟨[], _, hp, ?_⟩
            replace h336 : ORep (tInt .i64) R304 f335 v168 (up (up x210 ((1 : Int) + ((ix swaps x209) % ((↑y11.rows.length : Int) - 1))) (ix x210 ((1 : Int) + ((ix swaps (x209 + 1)) % ((↑y11.rows.length : Int) - 1))))) ((1 : Int) + ((ix swaps (x209 + 1)) % ((↑y11.rows.length : Int) - 1))) (ix x210 ((1 : Int) + ((ix swaps x209) % ((↑y11.rows.length : Int) - 1))))) := h336
            obtain rfl := Eq.symm h320
            obtain rfl := Eq.symm h321
            obtain rfl := Eq.symm h322
            obtain rfl := Eq.symm h323
            obtain rfl := Eq.symm h324
            obtain rfl := Eq.symm h325
            obtain rfl := Eq.symm h327
            obtain rfl := Eq.symm h328
            obtain rfl := Eq.symm h329
            obtain rfl := Eq.symm h331
            refine wo_nil ?_
            refine wg_region ?_
            refine wo_v rfl (val_move (v := (.int .i64 x209)) rfl) ?_
            have g338 := (gd_some hd1).1; replace hd1 := (gd_some hd1).2
            refine wo_v rfl (val_add rfl rfl g338) ?_
            refine wo_v rfl (val_assign (v := (.int .i64 (x209 + 2))) rfl) ?_
            refine wo_nil ?_
            exact ⟨(fun _ => rfl), ((le217.trans le257).trans le305), (by repeat (first | exact off_self | refine off_upd rfl ?_ | refine off_setl rfl ?_ | refine off_mask_sub rfl ?_)), (F208, x209 + 2, (up (up x210 ((1 : Int) + ((ix swaps x209) % ((↑y11.rows.length : Int) - 1))) (ix x210 ((1 : Int) + ((ix swaps (x209 + 1)) % ((↑y11.rows.length : Int) - 1))))) ((1 : Int) + ((ix swaps (x209 + 1)) % ((↑y11.rows.length : Int) - 1))) (ix x210 ((1 : Int) + ((ix swaps x209) % ((↑y11.rows.length : Int) - 1))))), f335), Nat.lt_succ_self _, ⟨rfl, trivial⟩, ⟨[], List.Perm.refl _⟩, hd1, h336, trivial⟩
          · replace hd1 := sel_f e244 hd1; clear e244
            refine wg_exit ?_
            exact ⟨(fun _ => rfl), (le212.trans le217), (by repeat (first | exact off_self | refine off_upd rfl ?_ | refine off_setl rfl ?_ | refine off_mask_sub rfl ?_)), (x210, f213), trivial, ⟨[], List.Perm.refl _⟩, (Option.some.inj hd1).symm, (h214.mono le217), trivial⟩
        ·
          rintro ⟨o203, f206⟩ j342 D343 R204 hD344 le205 ⟨rfl, h207, _⟩
          obtain rfl := hD344 rfl
          refine wg_seq ?_
          refine wg_region ?_
          refine wo_v rfl (val_loadBA (i := 0) ag27 sz27 rfl rfl rfl rfl) ?_
          refine wo_v rfl (val_move (v := v168) rfl) ?_
          refine wo_freeze (i := 3) rfl h207 fun R345 le346 h347 => ?_
          have h348 : VRep (tSl false (tInt .i64)) R345 v168 o203 := (sl_f h347)
          replace hd0 := bd_some hd0; obtain ⟨y349, c350, hd0⟩ := hd0
          refine wo_callP rfl en25 rfl (c_gauntletref06_Part (⟨_, ⟨_, _, rfl, rfl, ⟨_, _, rfl, rfl, (rep_one rfl (h20.mono (((((((((le28.trans le34).trans le52).trans le91).trans le103).trans le109).trans le115).trans le167).trans le205).trans le346)))⟩⟩, rfl⟩ : VRep (kMach false false) _ _ (⟨y11.inputs, y11.outputs, y11.rows⟩ : Mach)) h348 c350) fun v351 R353 le354 h352 => ?_
          refine wo_alloc rfl za27 fun b355 => ?_
          obtain ⟨v357, rfl, h358⟩ := cases_Mach h352
          refine wo_store (i := 0) (vs := [(.int .i64 y349.inputs), (.int .i64 y349.outputs), v357]) sz27 rfl rfl rfl rfl rfl rfl (one_cons rfl (one_cons rfl (one_cons (sl_one h358) one_nil))) ?_
          refine wo_nil ?_
          refine wg_seq ?_
          refine wg_region ?_
          refine wo_v rfl (val_loadBA (i := 0) ag27 sz27 rfl rfl rfl rfl) ?_
          replace hd0 := bd_some hd0; obtain ⟨y359, c360, hd0⟩ := hd0
          refine wo_callP rfl en28 rfl (c_walks_Canonical (⟨_, ⟨_, _, rfl, rfl, ⟨_, _, rfl, rfl, (rep_one rfl h358)⟩⟩, rfl⟩ : VRep (kMach false false) _ _ (⟨y349.inputs, y349.outputs, y349.rows⟩ : Mach)) c360) fun v361 R363 le364 h362 => ?_
          obtain ⟨v365, rfl, h366⟩ := h362
          refine wo_v rfl (val_move (v := (.tuple #[v365, (.int .i64 y359.2)])) rfl) ?_
          refine wo_v rfl (val_extract rfl rfl) ?_
          refine wo_v rfl (val_extract rfl rfl) ?_
          obtain ⟨v367, rfl, h368⟩ := cases_Mach h366
          refine wo_store (i := 3) (vs := [(.int .i64 y359.1.inputs), (.int .i64 y359.1.outputs), v367]) sz27 rfl rfl rfl rfl rfl rfl (one_cons rfl (one_cons rfl (one_cons (sl_one h368) one_nil))) ?_
          refine wo_v rfl (val_assign (v := (.int .i64 y359.2)) rfl) ?_
          refine wo_nil ?_
          refine wg_seq ?_
          replace hd0 := bd_some hd0; obtain ⟨y369, c370, hd0⟩ := hd0
          replace hd0 := bd_some hd0; obtain ⟨y371, c372, hd0⟩ := hd0
          refine wg_guarded 8 [] [phX (.agg #[(.int .i64 y359.1.inputs), (.int .i64 y359.1.outputs), v367]), phX (.int .i64 y359.2), phX (.agg #[(.int .i64 y29.1.inputs), (.int .i64 y29.1.outputs), v39]), phX (.bool y369), phX (.bool y369), phG (true && (y369 == true)) (phX (.bool (y371.getD default))), phX (.bool (y369 && (y371.getD default))), phX (.bool (y369 && (y371.getD default)))] (by kernel_rfl) (by kernel_rfl) (monoOk_of ⟨mono_x, mono_x, mono_x, mono_x, mono_x, (mono_g mono_x), mono_x, mono_x, trivial⟩) ⟨?_, ?_, ?_, ?_, ?_, ?_, ?_, ?_, trivial⟩ fun R373 le374 => ?_
          · intro l R0q hle ha hd
            have a11 : l 11 = (.pointer (some ⟨b94, 0, none⟩)) := ha 11 rfl
            exact gstep_plain rfl rfl rfl (ph_val (val_loadBA (i := 3) ag27 sz27 a11 rfl rfl rfl))
          · intro l R1q hle ha hd
            have a12 : l 12 = (.int .i64 y359.2) := ha 12 rfl
            exact gstep_plain rfl rfl rfl (ph_val (val_move a12))
          · intro l R2q hle ha hd
            have a9 : l 9 = (.pointer (some ⟨b37, 0, none⟩)) := ha 9 rfl
            exact gstep_plain rfl rfl rfl (ph_val (val_loadBA (i := 2) ag27 sz27 a9 rfl rfl rfl))
          · intro l R3q hle ha hd
            obtain ⟨d0, d1, d2, _⟩ := hd
            have f158 : l 158 = (.agg #[(.int .i64 y359.1.inputs), (.int .i64 y359.1.outputs), v367]) := d0 rfl
            have f159 : l 159 = (.int .i64 y359.2) := d1 rfl
            have f160 : l 160 = (.agg #[(.int .i64 y29.1.inputs), (.int .i64 y29.1.outputs), v39]) := d2 rfl
            exact gstep_plain rfl rfl rfl (ph_callP (vs := [(.agg #[(.int .i64 y359.1.inputs), (.int .i64 y359.1.outputs), v367]), (.int .i64 y359.2), (.agg #[(.int .i64 y29.1.inputs), (.int .i64 y29.1.outputs), v39])]) en24 (by simp only [List.map, ev, f158, f159, f160] <;> rfl) (c_gauntletlaw06_machine (⟨_, ⟨_, _, rfl, rfl, ⟨_, _, rfl, rfl, (rep_one rfl (h368.mono hle))⟩⟩, rfl⟩ : VRep (kMach true true) _ _ (⟨y359.1.inputs, y359.1.outputs, y359.1.rows⟩ : Mach)) (⟨_, ⟨_, _, rfl, rfl, ⟨_, _, rfl, rfl, (rep_one rfl (Sub.v (B := (tSl false (tSl false kEdge))) (sub_sl (sub_sl Sub.refl (fun _ => rfl)) (fun _ => rfl)) ((h40.mono (((((((((le52.trans le91).trans le103).trans le109).trans le115).trans le167).trans le205).trans le346).trans le354).trans le364)).mono hle)))⟩⟩, rfl⟩ : VRep (kMach false false) _ _ (⟨y29.1.inputs, y29.1.outputs, y29.1.rows⟩ : Mach)) c370) (fun _ _ h => h))
          · intro l R4q hle ha hd
            obtain ⟨d0, d1, _⟩ := hd
            have f161 : l 161 = (.bool y369) := d0 rfl
            exact gstep_plain rfl rfl rfl (ph_val (val_move f161))
          · intro l R5q hle ha hd
            obtain ⟨d0, d1, _⟩ := hd
            exact gstep_guard (Gj := true) (Bj := y369) rfl rfl rfl (gtrue (d0 rfl)) rfl (fun hG hB => ph_callP (vs := []) en18 rfl ((by have z := (gop_def c372 (gandT hG hB)); exact c_gauntletlaw06_lives  z)) (fun _ _ h => h))
          · intro l R6q hle ha hd
            obtain ⟨d0, d1, _⟩ := hd
            have f162 : l 162 = (.bool y369) := d0 rfl
            have f163g : phG (true && (y369 == true)) (phX (.bool (y371.getD default))) (l 163) R6q := d1 rfl
            exact gstep_plain rfl rfl rfl (ph_val (val_and f162 (fun hb => (show l 163 = (.bool (y371.getD default)) from f163g.1 (gandT rfl hb))) rfl))
          · intro l R7q hle ha hd
            obtain ⟨d0, d1, d2, d3, d4, d5, d6, d7, d8, _⟩ := hd
            have f164 : l 164 = (.bool (y369 && (y371.getD default))) := d0 rfl
            exact gstep_plain rfl rfl rfl (ph_val (val_assign f164))
          intro v375 h376
          intro v377 h378
          intro v379 h380
          intro v381 h382
          intro v383 h384
          intro v385 h386
          intro v387 h388
          intro v389 h390
          obtain rfl := Eq.symm h376
          obtain rfl := Eq.symm h378
          obtain rfl := Eq.symm h380
          obtain rfl := Eq.symm h382
          obtain rfl := Eq.symm h384
          obtain rfl := Eq.symm h388
          obtain rfl := Eq.symm h390
          refine wo_nil ?_
          refine wg_ret ?_
          obtain rfl := Option.some.inj hd0
          refine body_end (D := []) (J := [box b355 [(.int .i64 y349.inputs), (.int .i64 y349.outputs), v357] 27, box b17 [(.int .i64 y11.inputs), (.int .i64 y11.outputs), v19] 27, box b37 [(.int .i64 y29.1.inputs), (.int .i64 y29.1.outputs), v39] 27, box b94 [(.int .i64 y359.1.inputs), (.int .i64 y359.1.outputs), v367] 27]) (rs := [.tmp 6]) (vs := [(.bool (y369 && (y371.getD default)))]) (((((((((((((((le4.trans le8).trans le16).trans le28).trans le34).trans le52).trans le91).trans le103).trans le109).trans le115).trans le167).trans le205).trans le346).trans le354).trans le364).trans le374) rfl rfl ⟨rfl, trivial⟩ ?_
          exact ⟨rfl, rfl⟩
end GV
end Go.Proofs.Ytncblcdhmcmkmaa
