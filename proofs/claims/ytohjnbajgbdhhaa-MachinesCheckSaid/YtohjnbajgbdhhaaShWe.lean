/- The walks of the functions; printed. -/
import Derived.Test.YtohjnbajgbdhhaaShWd
import Derived.Test.YtohjnbajgbdhhaaRows
namespace Go.Proofs.Ytohjnbajgbdhhaa
namespace GV
open Go.IntWalk
set_option linter.unusedVariables false
set_option linter.unusedSimpArgs false
set_option maxRecDepth 100000
set_option maxHeartbeats 2000000
theorem en36 : Enters Try.prog 36 := enters_of Try.func36 rfl (by kernel_rfl)
theorem c_gauntletlaw04_ring {N : Nat} {R : RH} {n : Int} {inputs : Int} {r : Mach} (hd0 : gauntletlaw04_ring N n inputs = some r) : CallP Try.prog 37 #[(.int .i64 n), (.int .i64 inputs)] R (fun v R' => VRep (kMach false false) R' v r) := by
  refine callP_of_wg (args := [(.int .i64 n), (.int .i64 inputs)]) Try.func37 rfl rfl fun A => ?_
  rw [gauntletlaw04_ring] at hd0
  refine wg_seq ?_
  refine wg_region ?_
  refine wo_alloc rfl za27 fun b1 => ?_
  refine wo_nil ?_
  refine wg_seq ?_
  refine wg_region ?_
  refine wo_v rfl (val_move (v := (.int .i64 inputs)) rfl) ?_
  refine wo_v rfl (val_buildL (ps := [(0, (.int .i64 inputs)), (1, (.int .i64 16))]) (v := (.agg #[(.int .i64 inputs), (.int .i64 16), (.slice none 0 0)])) rfl (fun w => by kernel_rfl)) ?_
  refine wo_alloc rfl za27 fun b3 => ?_
  refine wo_store (i := 0) (vs := [(.int .i64 inputs), (.int .i64 16), (.slice none 0 0)]) sz27 rfl rfl rfl rfl rfl rfl (one_cons rfl (one_cons rfl (one_cons rfl one_nil))) ?_
  refine wo_nil ?_
  replace hd0 := bd_some hd0; obtain ⟨o5, hd1, hd0⟩ := hd0
  refine wg_meet (γ := (List (List Edge)) × Value × Frag) true [6, 11, 12, 13, 7, 8, 16, 17, 18, 21, 22, 23, 24, 25, 26, 27, 28, 29, 30, 31, 32, 19, 20, 33, 34, 35, 36, 37, 38, 14, 15] (fun g => []) (fun g => [box b1 [(.int .i64 0), (.int .i64 0), (.slice none 0 0)] 27, box b3 [(.int .i64 inputs), (.int .i64 16), g.2.1] 27, g.2.2] ++ A) (fun g R => o5 = g.1 ∧ ORep (tSl false kEdge) R g.2.2 g.2.1 g.1 ∧ True) ?_ ?_
  ·
    refine wg_seq ?_
    refine wg_region ?_
    refine wo_v rfl (val_assign (v := (.int .i64 0)) rfl) ?_
    refine wo_nil ?_
    refine wg_block ?_
    refine wg_emp ?_
    refine wg_loopS (γ := Nat × Int × (List (List Edge)) × Value × Frag) true [11, 12, 13, 7, 8, 16, 17, 18, 21, 22, 23, 24, 25, 26, 27, 28, 29, 30, 31, 32, 19, 20, 33, 34, 35, 36, 37, 38, 14, 15, 6] (fun g => [(6, (.int .i64 g.2.1))]) (fun g => [box b1 [(.int .i64 0), (.int .i64 0), (.slice none 0 0)] 27, box b3 [(.int .i64 inputs), (.int .i64 16), g.2.2.2.1] 27, g.2.2.2.2] ++ A) (fun g R => gauntletlaw04_ring_L1 N n inputs g.1 g.2.1 g.2.2.1 = some o5 ∧ ORep (tSl false kEdge) R g.2.2.2.2 g.2.2.2.1 g.2.2.1 ∧ True) (fun g => g.1) (N, 0, ([] : List (List Edge)), (.slice none 0 0), emp) ⟨rfl, trivial⟩ ⟨[], (pk 2 rfl (pk 1 rfl (pk 0 rfl (List.Perm.refl _))))⟩ ⟨hd1, (orep_emp (T := (tSl false kEdge))), trivial⟩ (fun _ => rfl) ?_
    clear hd1
    rintro ⟨F13, x14, x15, v18, f19⟩ j89 D90 R16 hD91 le17 ⟨hd1, h20, _⟩
    obtain rfl := hD91 rfl
    rcases F13 with _ | F13
    · exact none_elim hd1
    replace hd1 : gauntletlaw04_ring_L1 N n inputs (F13 + 1) x14 x15 = some o5 := hd1; rw [gauntletlaw04_ring_L1] at hd1
    refine wg_seq ?_
    refine wg_seq ?_
    refine wg_region ?_
    refine wo_v rfl (val_move (v := (.int .i64 x14)) rfl) ?_
    refine wo_v rfl (val_move (v := (.int .i64 n)) rfl) ?_
    refine wo_v rfl (val_lss rfl rfl) ?_
    refine wo_nil ?_
    refine wg_cond rfl (fun e22 => ?_) (fun e22 => ?_)
    · replace hd1 := sel_t e22 hd1; clear e22
      refine wg_skip ?_
      refine wg_seq ?_
      refine wg_block ?_
      refine wg_seq ?_
      refine wg_region ?_
      refine wo_v rfl (val_assign (v := (.slice none 0 0)) rfl) ?_
      refine wo_nil ?_
      replace hd1 := bd_some hd1; obtain ⟨o23, hd2, hd1⟩ := hd1
      refine wg_meet (γ := (List Edge) × Value × Frag) true [8, 16, 17, 18, 21, 22, 23, 24, 25, 26, 27, 28, 29, 30, 31, 32, 7, 19, 20] (fun g => [(7, g.2.1)]) (fun g => [box b1 [(.int .i64 0), (.int .i64 0), (.slice none 0 0)] 27, box b3 [(.int .i64 inputs), (.int .i64 16), v18] 27, f19, g.2.2] ++ A) (fun g R => o23 = g.1 ∧ ORep kEdge R g.2.2 g.2.1 g.1 ∧ True) ?_ ?_
      ·
        refine wg_seq ?_
        refine wg_region ?_
        refine wo_v rfl (val_assign (v := (.int .i64 0)) rfl) ?_
        refine wo_nil ?_
        refine wg_block ?_
        refine wg_emp ?_
        refine wg_loopS (γ := Nat × (List Edge) × Int × Value × Frag) true [16, 17, 18, 21, 22, 23, 24, 25, 26, 27, 28, 29, 30, 31, 32, 7, 19, 20, 8] (fun g => [(7, g.2.2.2.1), (8, (.int .i64 g.2.2.1))]) (fun g => [box b1 [(.int .i64 0), (.int .i64 0), (.slice none 0 0)] 27, box b3 [(.int .i64 inputs), (.int .i64 16), v18] 27, f19, g.2.2.2.2] ++ A) (fun g R => gauntletlaw04_ring_L2 N n inputs x14 g.1 g.2.1 g.2.2.1 = some o23 ∧ ORep kEdge R g.2.2.2.2 g.2.2.2.1 g.2.1 ∧ True) (fun g => g.1) (N, ([] : List Edge), 0, (.slice none 0 0), emp) ⟨rfl, rfl, trivial⟩ ⟨[], (pk 1 rfl (pk 1 rfl (pk 1 rfl (pk 0 rfl (List.Perm.refl _)))))⟩ ⟨hd2, (orep_emp (T := kEdge)), trivial⟩ (fun _ => rfl) ?_
        clear hd2
        rintro ⟨F31, x32, x33, v36, f37⟩ j65 D66 R34 hD67 le35 ⟨hd2, h38, _⟩
        obtain rfl := hD67 rfl
        rcases F31 with _ | F31
        · exact none_elim hd2
        replace hd2 : gauntletlaw04_ring_L2 N n inputs x14 (F31 + 1) x32 x33 = some o23 := hd2; rw [gauntletlaw04_ring_L2] at hd2
        refine wg_seq ?_
        refine wg_seq ?_
        refine wg_region ?_
        refine wo_v rfl (val_move (v := (.int .i64 x33)) rfl) ?_
        refine wo_v rfl (val_move (v := (.int .i64 inputs)) rfl) ?_
        refine wo_v rfl (val_lss rfl rfl) ?_
        refine wo_nil ?_
        refine wg_cond rfl (fun e40 => ?_) (fun e40 => ?_)
        · replace hd2 := sel_t e40 hd2; clear e40
          refine wg_skip ?_
          refine wg_seq ?_
          refine wg_block ?_
          refine wg_region ?_
          refine wo_v rfl (val_move (v := v36) rfl) ?_
          refine wo_v rfl (val_move (v := (.int .i64 x14)) rfl) ?_
          have g41 := (gd_some hd2).1; replace hd2 := (gd_some hd2).2
          refine wo_v rfl (val_add rfl rfl g41) ?_
          refine wo_v rfl (val_move (v := (.int .i64 n)) rfl) ?_
          have g42 := (gd_some hd2).1; replace hd2 := (gd_some hd2).2
          refine wo_v rfl (val_rem0 rfl rfl g42) ?_
          refine wo_v rfl (val_move (v := (.int .i64 x14)) rfl) ?_
          refine wo_v rfl (val_move (v := (.int .i64 x33)) rfl) ?_
          have g43 := (gd_some hd2).1; replace hd2 := (gd_some hd2).2
          refine wo_v rfl (val_add rfl rfl g43) ?_
          have g44 := (gd_some hd2).1; replace hd2 := (gd_some hd2).2
          refine wo_v rfl (val_rem0 rfl rfl g44) ?_
          replace hd2 := bd_some hd2; obtain ⟨y45, c46, hd2⟩ := hd2
          refine wo_callP rfl en18 rfl (c_gauntletlaw04_edge  c46) fun v47 R49 le50 h48 => ?_
          obtain rfl := h48
          refine wo_lit (T := kEdge) (X := ([(⟨y45.to, y45.out⟩ : Edge)] : List Edge)) (ps := [(0, (enc_Edge y45))]) (css := [[(.int .i64 y45.to), (.int .i64 y45.out)]]) rfl Try.underlying41 zo40 rfl rfl (lit_reps ⟨⟨_, _, rfl, rfl, rfl⟩, trivial⟩) rfl rfl (by decide) fun v51 f52 cap53 h54 => ?_
          refine wo_freeze (i := 0) rfl h54 fun R56 le57 h58 => ?_
          have h59 : VRep (tSl true kEdge) R56 v51 ([(⟨y45.to, y45.out⟩ : Edge)] : List Edge) := (sl_t h58 cap53)
          have g60 := (gd_some hd2).1; replace hd2 := (gd_some hd2).2
          refine wo_append (i := 3) (X := x32) (Y := ([(⟨y45.to, y45.out⟩ : Edge)] : List Edge)) rfl Try.underlying41 zo40 rfl rfl rfl (h38.mono (le50.trans le57)) (sl_s (Sub.v (B := (tSl false kEdge)) (sub_sl Sub.refl (fun _ => rfl)) h59)) g60.1 g60.2 fun v61 f62 h63 => ?_
          refine wo_v rfl (val_assign (v := v61) rfl) ?_
          refine wo_nil ?_
          refine wg_region ?_
          refine wo_v rfl (val_move (v := (.int .i64 x33)) rfl) ?_
          have g64 := (gd_some hd2).1; replace hd2 := (gd_some hd2).2
          refine wo_v rfl (val_add rfl rfl g64) ?_
          refine wo_v rfl (val_assign (v := (.int .i64 (x33 + 1))) rfl) ?_
          refine wo_nil ?_
          exact ⟨(fun _ => rfl), (le50.trans le57), (by repeat (first | exact off_self | refine off_upd rfl ?_ | refine off_setl rfl ?_ | refine off_mask_sub rfl ?_)), (F31, (x32 ++ ([(⟨y45.to, y45.out⟩ : Edge)] : List Edge)), x33 + 1, v61, f62), Nat.lt_succ_self _, ⟨rfl, rfl, trivial⟩, ⟨[], List.Perm.refl _⟩, hd2, h63, trivial⟩
        · replace hd2 := sel_f e40 hd2; clear e40
          refine wg_exit ?_
          exact ⟨(fun _ => rfl), le35, (by repeat (first | exact off_self | refine off_upd rfl ?_ | refine off_setl rfl ?_ | refine off_mask_sub rfl ?_)), (x32, v36, f37), ⟨rfl, trivial⟩, ⟨[], List.Perm.refl _⟩, (Option.some.inj hd2).symm, h38, trivial⟩
      ·
        rintro ⟨o23, v26, f27⟩ j68 D69 R24 hD70 le25 ⟨rfl, h28, _⟩
        obtain rfl := hD70 rfl
        refine wg_region ?_
        refine wo_v rfl (val_fieldB fd27_2 rfl) ?_
        refine wo_v rfl (val_loadB (i := 1) ag25 rfl rfl rfl) ?_
        refine wo_v rfl (val_move (v := v26) rfl) ?_
        refine wo_freeze (i := 3) rfl h28 fun R71 le72 h73 => ?_
        have h74 : VRep (tSl false kEdge) R71 v26 o23 := (sl_f h73)
        refine wo_lit (T := (tSl false kEdge)) (X := ([o23] : List (List Edge))) (ps := [(0, v26)]) (css := [[v26]]) rfl Try.underlying25 zo41 rfl (by simp only [List.map_cons, List.map_nil, sl_cells h74]; rfl) (lit_reps ⟨(rep_one rfl h74), trivial⟩) rfl rfl (by decide) fun v75 f76 cap77 h78 => ?_
        refine wo_freeze (i := 0) rfl h78 fun R80 le81 h82 => ?_
        have h83 : VRep (tSl true (tSl false kEdge)) R80 v75 ([o23] : List (List Edge)) := (sl_t h82 cap77)
        have g84 := (gd_some hd1).1; replace hd1 := (gd_some hd1).2
        refine wo_append (i := 2) (X := x15) (Y := ([o23] : List (List Edge))) rfl Try.underlying25 zo41 rfl rfl rfl (h20.mono ((le25.trans le72).trans le81)) (sl_s (Sub.v (B := (tSl false (tSl false kEdge))) (sub_sl Sub.refl (fun _ => rfl)) h83)) g84.1 g84.2 fun v85 f86 h87 => ?_
        refine wo_v rfl (val_fieldB fd27_2 rfl) ?_
        refine wo_store (i := 1) (vs := [v85]) sz25 rfl rfl (orep_cells h87) rfl rfl rfl (one_cons (orep_one h87) one_nil) ?_
        refine wo_nil ?_
        refine wg_region ?_
        refine wo_v rfl (val_move (v := (.int .i64 x14)) rfl) ?_
        have g88 := (gd_some hd1).1; replace hd1 := (gd_some hd1).2
        refine wo_v rfl (val_add rfl rfl g88) ?_
        refine wo_v rfl (val_assign (v := (.int .i64 (x14 + 1))) rfl) ?_
        refine wo_nil ?_
        exact ⟨(fun _ => rfl), ((le25.trans le72).trans le81), (by repeat (first | exact off_self | refine off_upd rfl ?_ | refine off_setl rfl ?_ | refine off_mask_sub rfl ?_)), (F13, x14 + 1, (x15 ++ ([o23] : List (List Edge))), v85, f86), Nat.lt_succ_self _, ⟨rfl, trivial⟩, ⟨[], List.Perm.refl _⟩, hd1, h87, trivial⟩
    · replace hd1 := sel_f e22 hd1; clear e22
      refine wg_exit ?_
      exact ⟨(fun _ => rfl), le17, (by repeat (first | exact off_self | refine off_upd rfl ?_ | refine off_setl rfl ?_ | refine off_mask_sub rfl ?_)), (x15, v18, f19), trivial, ⟨[], List.Perm.refl _⟩, (Option.some.inj hd1).symm, h20, trivial⟩
  ·
    rintro ⟨o5, v8, f9⟩ j92 D93 R6 hD94 le7 ⟨rfl, h10, _⟩
    obtain rfl := hD94 rfl
    refine wg_seq ?_
    refine wg_region ?_
    refine wo_v rfl (val_loadBA (i := 1) ag27 sz27 rfl rfl rfl rfl) ?_
    refine wo_store (i := 0) (vs := [(.int .i64 inputs), (.int .i64 16), v8]) sz27 rfl rfl rfl rfl rfl rfl (one_cons rfl (one_cons rfl (one_cons (orep_one h10) one_nil))) ?_
    refine wo_nil ?_
    refine wg_freeze (i := 2) rfl h10 fun R95 le96 h97 => ?_
    have h98 : VRep (tSl false (tSl false kEdge)) R95 v8 o5 := (sl_f h97)
    refine wg_ret ?_
    obtain rfl := Option.some.inj hd0
    refine body_end (D := []) (J := [box b1 [(.int .i64 inputs), (.int .i64 16), v8] 27, box b3 [(.int .i64 inputs), (.int .i64 16), v8] 27]) (rs := [.cell 4 27]) (vs := [(.agg #[(.int .i64 inputs), (.int .i64 16), v8])]) (le7.trans le96) rfl rfl ⟨⟨_, rfl, fun w hh => run_cellA (i := 0) hh rfl rfl ag27 sz27 rfl rfl⟩, trivial⟩ ?_
    exact ⟨rfl, (⟨_, ⟨_, _, rfl, rfl, ⟨_, _, rfl, rfl, (rep_one rfl h98)⟩⟩, rfl⟩ : VRep (kMach false false) _ _ (⟨inputs, 16, o5⟩ : Mach))⟩
theorem en37 : Enters Try.prog 37 := enters_of Try.func37 rfl (by kernel_rfl)
end GV
end Go.Proofs.Ytohjnbajgbdhhaa
