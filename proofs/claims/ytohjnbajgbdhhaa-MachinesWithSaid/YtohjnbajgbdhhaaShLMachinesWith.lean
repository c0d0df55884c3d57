/- The walks of the functions; printed. -/
import Derived.Test.YtohjnbajgbdhhaaShWe
import Derived.Test.YtohjnbajgbdhhaaRows
namespace Go.Proofs.Ytohjnbajgbdhhaa
namespace GV
open Go.IntWalk
set_option linter.unusedVariables false
set_option linter.unusedSimpArgs false
set_option maxRecDepth 100000
set_option maxHeartbeats 20000000
theorem c_gauntletref04_Copy {N : Nat} {R : RH} {m : Mach} {v_m : Value} (h_m : VRep (kMach false false) R v_m m) {r : Mach} (hd0 : gauntletref04_Copy N m = some r) : CallP Try.prog 35 #[v_m] R (fun v R' => VRep (kMach false false) R' v r) := by
  refine callP_of_wg (args := [v_m]) Try.func35 rfl rfl fun A => ?_
  rw [gauntletref04_Copy] at hd0
  refine wg_seq ?_
  refine wg_region ?_
  refine wo_boxR (T := (kMach false false)) rfl rfl h_m fun v1 R3 le4 h2 => ?_
  refine wo_alloc rfl za27 fun b5 => ?_
  refine wo_nil ?_
  refine wg_seq ?_
  refine wg_region ?_
  refine wo_fieldR rfl fd27_0 pt_Mach0 rfl h2 fun v7 h8 => ?_
  refine wo_loadR rfl ty3 rfl h8 fun v9 h10 => ?_
  obtain rfl := vrep_int.1 h10
  refine wo_fieldR rfl fd27_1 pt_Mach1 rfl h2 fun v11 h12 => ?_
  refine wo_loadR rfl ty3 rfl h12 fun v13 h14 => ?_
  obtain rfl := vrep_int.1 h14
  refine wo_v rfl (val_buildL (ps := [(0, (.int .i64 m.inputs)), (1, (.int .i64 m.outputs))]) (v := (.agg #[(.int .i64 m.inputs), (.int .i64 m.outputs), (.slice none 0 0)])) rfl (fun w => by kernel_rfl)) ?_
  refine wo_alloc rfl za27 fun b15 => ?_
  refine wo_store (i := 0) (vs := [(.int .i64 m.inputs), (.int .i64 m.outputs), (.slice none 0 0)]) sz27 rfl rfl rfl rfl rfl rfl (one_cons rfl (one_cons rfl (one_cons rfl one_nil))) ?_
  refine wo_nil ?_
  replace hd0 := bd_some hd0; obtain ⟨o17, hd1, hd0⟩ := hd0
  refine wg_meet (γ := (List (List Edge)) × Value × Frag) true [4, 10, 11, 12, 13, 14, 17, 18, 19, 20, 21, 22, 23, 24, 25, 26, 27, 28, 15, 16] (fun g => []) (fun g => [box b5 [(.int .i64 0), (.int .i64 0), (.slice none 0 0)] 27, box b15 [(.int .i64 m.inputs), (.int .i64 m.outputs), g.2.1] 27, g.2.2] ++ A) (fun g R => o17 = g.1 ∧ ORep (tSl false kEdge) R g.2.2 g.2.1 g.1 ∧ True) ?_ ?_
  ·
    refine wg_seq ?_
    refine wg_region ?_
    refine wo_v rfl (val_assign (v := (.int .i64 0)) rfl) ?_
    refine wo_nil ?_
    refine wg_block ?_
    refine wg_emp ?_
    refine wg_loopS (γ := Nat × Int × (List (List Edge)) × Value × Frag) true [10, 11, 12, 13, 14, 17, 18, 19, 20, 21, 22, 23, 24, 25, 26, 27, 28, 15, 16, 4] (fun g => [(4, (.int .i64 g.2.1))]) (fun g => [box b5 [(.int .i64 0), (.int .i64 0), (.slice none 0 0)] 27, box b15 [(.int .i64 m.inputs), (.int .i64 m.outputs), g.2.2.2.1] 27, g.2.2.2.2] ++ A) (fun g R => gauntletref04_Copy_L1 N m g.1 g.2.1 g.2.2.1 = some o17 ∧ ORep (tSl false kEdge) R g.2.2.2.2 g.2.2.2.1 g.2.2.1 ∧ True) (fun g => g.1) (N, 0, ([] : List (List Edge)), (.slice none 0 0), emp) ⟨rfl, trivial⟩ ⟨[], (pk 2 rfl (pk 1 rfl (pk 0 rfl (List.Perm.refl _))))⟩ ⟨hd1, (orep_emp (T := (tSl false kEdge))), trivial⟩ (fun _ => rfl) ?_
    clear hd1
    rintro ⟨F25, x26, x27, v30, f31⟩ j73 D74 R28 hD75 le29 ⟨hd1, h32, _⟩
    obtain rfl := hD75 rfl
    rcases F25 with _ | F25
    · exact none_elim hd1
    replace hd1 : gauntletref04_Copy_L1 N m (F25 + 1) x26 x27 = some o17 := hd1; rw [gauntletref04_Copy_L1] at hd1
    refine wg_seq ?_
    refine wg_seq ?_
    refine wg_region ?_
    refine wo_v rfl (val_move (v := (.int .i64 x26)) rfl) ?_
    refine wo_fieldR rfl fd27_2 pt_Mach2 rfl (h2.mono le29) fun v34 h35 => ?_
    refine wo_loadR rfl ty25 rfl h35 fun v36 h37 => ?_
    refine wo_v rfl (val_lenR rfl Try.underlying25 rfl (sl_s h37)) ?_
    refine wo_v rfl (val_lss rfl rfl) ?_
    refine wo_nil ?_
    refine wg_cond rfl (fun e38 => ?_) (fun e38 => ?_)
    · replace hd1 := sel_t e38 hd1; clear e38
      refine wg_skip ?_
      refine wg_seq ?_
      refine wg_block ?_
      have g39 := (gd_some hd1).1; replace hd1 := (gd_some hd1).2
      have g40 := (gd_some hd1).1; replace hd1 := (gd_some hd1).2
      have g41 := (gd_some hd1).1; replace hd1 := (gd_some hd1).2
      refine wg_free [10, 12] [(fun es => phX (.pointer (some ⟨b15, 2, none⟩))), (fun es => phX v30), (fun es => phR (tSl true kEdge) ([] : List Edge)), (fun es => phP (tSl false (tSl false kEdge)) m.rows), (fun es => phR (tSl false (tSl false kEdge)) m.rows), (fun es => phX (.int .i64 x26)), (fun es => phP (tSl false kEdge) (ix m.rows x26)), (fun es => phR (tSl false kEdge) (ix m.rows x26)), (fun es => phR (tSl false kEdge) (([] : List Edge) ++ (ix m.rows x26))), (fun es => phR (tSl true (tSl false kEdge)) ([(([] : List Edge) ++ (ix m.rows x26))] : List (List Edge))), (fun es => (fun v _ => v.oneCell' = true)), (fun es => phX (.pointer (some ⟨b15, 2, none⟩))), (fun es => (fun _ _ => True))] (fun fl es R O => (fl = [false, false] ∧ O.Perm ([box b5 [(.int .i64 0), (.int .i64 0), (.slice none 0 0)] 27, box b15 [(.int .i64 m.inputs), (.int .i64 m.outputs), v30] 27, f31] ++ A) ∧ True) ∨ (fl = [true, false] ∧ ∃ (f_o33 : Frag), O.Perm ([box b5 [(.int .i64 0), (.int .i64 0), (.slice none 0 0)] 27, box b15 [(.int .i64 m.inputs), (.int .i64 m.outputs), v30] 27, f_o33] ++ A) ∧ ORep (tSl false kEdge) R f_o33 (es.getD 0 undef) (x27 ++ ([(([] : List Edge) ++ (ix m.rows x26))] : List (List Edge))) ∧ True) ∨ (fl = [true, true] ∧ ∃ (f_o33 : Frag), O.Perm ([box b5 [(.int .i64 0), (.int .i64 0), (.slice none 0 0)] 27, box b15 [(.int .i64 m.inputs), (.int .i64 m.outputs), (es.getD 0 undef)] 27, f_o33] ++ A) ∧ ORep (tSl false kEdge) R f_o33 (es.getD 0 undef) (x27 ++ ([(([] : List Edge) ++ (ix m.rows x26))] : List (List Edge))) ∧ True)) mixed (by kernel_rfl) ⟨(monoE_of mono_x), (monoE_of mono_x), (monoE_of mono_r), (monoE_of mono_p), (monoE_of mono_r), (monoE_of mono_x), (monoE_of mono_p), (monoE_of mono_r), (monoE_of mono_r), (monoE_of mono_r), (fun _ _ _ _ _ h => h), (monoE_of mono_x), (fun _ _ _ _ _ h => h), trivial⟩ (by
          rintro fl es R R' O hle (⟨rfl, hp, _⟩ | ⟨rfl, f_o33, hp, h_o33, _⟩ | ⟨rfl, f_o33, hp, h_o33, _⟩)
          · exact (.inl ⟨rfl, hp, trivial⟩)
          · exact (.inr (.inl ⟨rfl, f_o33, hp, (h_o33.mono hle), trivial⟩))
          · exact (.inr (.inr ⟨rfl, f_o33, hp, (h_o33.mono hle), trivial⟩))) ⟨(fun _ _ _ _ _ h => h), (fun _ _ _ _ _ h => h), (fun _ _ _ _ _ h => h), (fun _ _ _ _ _ h => h), (fun _ _ _ _ _ h => h), (fun _ _ _ _ _ h => h), (fun _ _ _ _ _ h => h), (fun _ _ _ _ _ h => h), (fun _ _ _ _ _ h => h), (fun _ _ _ _ _ h => h), (fun _ _ _ _ _ h => h), (fun _ _ _ _ _ h => h), (fun _ _ _ _ _ h => h), trivial⟩ (fun es => .inl ⟨rfl, (List.Perm.refl _), trivial⟩) ⟨?_, ?_, ?_, ?_, ?_, ?_, ?_, ?_, ?_, ?_, ?_, ?_, ?_, trivial⟩ fun R42 le43 => ?_
      · intro l R0q fl O hle ha hd hk hW
        have a3 : l 3 = (.pointer (some ⟨b15, 0, none⟩)) := ha 3 rfl
        exact ph_val (val_fieldB fd27_2 a3)
      · intro l R1q fl O hle ha hd hk hW
        obtain ⟨d0, _⟩ := hd
        have f17 : l 17 = (.pointer (some ⟨b15, 2, none⟩)) := d0 rfl
        rcases hW with ⟨rfl, hp, _⟩ | ⟨rfl, f_o33, hp, h_o33, _⟩ | ⟨rfl, f_o33, hp, h_o33, _⟩
        · exact eff_permP hp (ph_val (val_loadB (i := 1) ag25 f17 rfl rfl))
        · exact kn_no hk (by kernel_rfl)
        · exact kn_no hk (by kernel_rfl)
      · intro l R2q fl O hle ha hd hk hW
        exact ph_litT (T := kEdge) (X := ([] : List Edge)) (ps := []) (css := []) Try.underlying41 zo40 rfl rfl (lit_reps trivial) rfl rfl (by decide)
      · intro l R3q fl O hle ha hd hk hW
        have a1 : l 1 = v1 := ha 1 rfl
        exact ph_fieldR fd27_2 pt_Mach2 a1 ((h2.mono le29).mono hle)
      · intro l R4q fl O hle ha hd hk hW
        obtain ⟨d0, _⟩ := hd
        have f20 : phP (tSl false (tSl false kEdge)) m.rows (l 20) R4q := d0 rfl
        exact ph_loadR ty25 rfl f20
      · intro l R5q fl O hle ha hd hk hW
        have a4 : l 4 = (.int .i64 x26) := ha 4 rfl
        exact ph_val (val_move a4)
      · intro l R6q fl O hle ha hd hk hW
        obtain ⟨d0, d1, _⟩ := hd
        have f21 : phR (tSl false (tSl false kEdge)) m.rows (l 21) R6q := d0 rfl
        have f22 : l 22 = (.int .i64 x26) := d1 rfl
        exact ph_indexR (i := x26.toNat) sl25 rfl (sl_s f21) (idx_nonneg f22 g39.1) (okI_lt g39)
      · intro l R7q fl O hle ha hd hk hW
        obtain ⟨d0, _⟩ := hd
        have f23 : phP (tSl false kEdge) (ix m.rows x26) (l 23) R7q := d0 rfl
        exact ph_loadR ty41 rfl f23
      · intro l R8q fl O hle ha hd hk hW
        obtain ⟨d0, d1, _⟩ := hd
        have f19 : phR (tSl true kEdge) ([] : List Edge) (l 19) R8q := d0 rfl
        have f24 : phR (tSl false kEdge) (ix m.rows x26) (l 24) R8q := d1 rfl
        exact ph_appT (X := ([] : List Edge)) (Y := (ix m.rows x26)) Try.underlying41 zo40 rfl rfl f19 (sl_s f24) g40.1 g40.2
      · intro l R9q fl O hle ha hd hk hW
        obtain ⟨d0, _⟩ := hd
        have f25 : phR (tSl false kEdge) (([] : List Edge) ++ (ix m.rows x26)) (l 25) R9q := d0 rfl
        exact ph_litT (T := (tSl false kEdge)) (X := ([(([] : List Edge) ++ (ix m.rows x26))] : List (List Edge))) (ps := [(0, (l 25))]) (css := [[(l 25)]]) Try.underlying25 zo41 rfl (by simp only [List.map_cons, List.map_nil, sl_cells f25]; rfl) (lit_reps ⟨(rep_one rfl f25), trivial⟩) rfl rfl (by decide)
      · intro l R10q fl O hle ha hd hk hf hW
        obtain ⟨d0, d1, d2, _⟩ := hd
        have f18 : l 18 = v30 := d0 rfl
        have f26 : phR (tSl true (tSl false kEdge)) ([(([] : List Edge) ++ (ix m.rows x26))] : List (List Edge)) (l 26) R10q := d1 rfl
        rcases hW with ⟨rfl, hp, _⟩ | ⟨rfl, f_o33, hp, h_o33, _⟩ | ⟨rfl, f_o33, hp, h_o33, _⟩
        · refine eff_perm hp ?_
          refine Eff.mono (eff_append (i := 2) (X := x27) (Y := ([(([] : List Edge) ++ (ix m.rows x26))] : List (List Edge))) Try.underlying25 zo41 f18 rfl rfl (h32.mono hle) (sl_s (Sub.v (B := (tSl false (tSl false kEdge))) (sub_sl Sub.refl (fun _ => rfl)) f26)) g41.1 g41.2) ?_
          rintro v R' O' hle' ⟨rfl, f, rfl, ho⟩
          exact ⟨(orep_one ho), .inr (.inl ⟨rfl, f, (List.Perm.refl _), ho, trivial⟩)⟩
        · cases hf
        · cases hf
      · intro l R11q fl O hle ha hd hk hW
        obtain ⟨d0, d1, d2, d3, d4, d5, d6, d7, d8, d9, d10, _⟩ := hd
        have a3 : l 3 = (.pointer (some ⟨b15, 0, none⟩)) := ha 3 rfl
        exact ph_val (val_fieldB fd27_2 a3)
      · intro l R12q fl O hle ha hd hk hf hW
        obtain ⟨d0, d1, d2, d3, d4, d5, d6, d7, d8, d9, d10, d11, d12, d13, _⟩ := hd
        have f28 : l 28 = (.pointer (some ⟨b15, 2, none⟩)) := d0 rfl
        have f27 : (l 27).oneCell' = true := d1 rfl
        rcases hW with ⟨rfl, hp, _⟩ | ⟨rfl, f_o33, hp, h_o33, _⟩ | ⟨rfl, f_o33, hp, h_o33, _⟩
        · exact kn_no hk (by kernel_rfl)
        · refine eff_perm hp ?_
          refine Eff.mono (eff_store (i := 1) (vs := [(l 27)]) sz25 f28 rfl (orep_cells h_o33) rfl rfl (Nat.le_of_ble_eq_true rfl) (one_cons (orep_one h_o33) one_nil)) ?_
          rintro v R' O' hle' ⟨_, rfl, rfl⟩
          exact ⟨trivial, .inr (.inr ⟨rfl, f_o33, (List.Perm.refl _), h_o33, trivial⟩)⟩
        · cases hf
      intro v44
      intro v45
      intro v46
      intro v47
      intro v48
      intro v49
      intro v50
      intro v51
      intro v52
      intro v53
      intro v54
      intro v55
      intro h56
      intro h57
      intro h58
      intro h59
      intro h60
      intro h61
      intro h62
      intro h63
      intro h64
      intro h65
      intro h66
      intro h67
      rintro OO68 (⟨e, _⟩ | ⟨e, _⟩ | ⟨_, f69, hp, h70, _⟩)
      · cases e
      · cases e
      refine ⟨[], _, hp, ?_⟩
      obtain rfl := Eq.symm h56
      obtain rfl := Eq.symm h57
      obtain rfl := Eq.symm h61
      obtain rfl := Eq.symm h67
      refine wo_nil ?_
      refine wg_region ?_
      refine wo_v rfl (val_move (v := (.int .i64 x26)) rfl) ?_
      have g72 := (gd_some hd1).1; replace hd1 := (gd_some hd1).2
      refine wo_v rfl (val_add rfl rfl g72) ?_
      refine wo_v rfl (val_assign (v := (.int .i64 (x26 + 1))) rfl) ?_
      refine wo_nil ?_
      exact ⟨(fun _ => rfl), le43, (by repeat (first | exact off_self | refine off_upd rfl ?_ | refine off_setl rfl ?_ | refine off_mask_sub rfl ?_)), (F25, x26 + 1, (x27 ++ ([(([] : List Edge) ++ (ix m.rows x26))] : List (List Edge))), v54, f69), Nat.lt_succ_self _, ⟨rfl, trivial⟩, ⟨[], List.Perm.refl _⟩, hd1, h70, trivial⟩
    · replace hd1 := sel_f e38 hd1; clear e38
      refine wg_exit ?_
      exact ⟨(fun _ => rfl), le29, (by repeat (first | exact off_self | refine off_upd rfl ?_ | refine off_setl rfl ?_ | refine off_mask_sub rfl ?_)), (x27, v30, f31), trivial, ⟨[], List.Perm.refl _⟩, (Option.some.inj hd1).symm, h32, trivial⟩
  ·
    rintro ⟨o17, v20, f21⟩ j76 D77 R18 hD78 le19 ⟨rfl, h22, _⟩
    obtain rfl := hD78 rfl
    refine wg_seq ?_
    refine wg_region ?_
    refine wo_v rfl (val_loadBA (i := 1) ag27 sz27 rfl rfl rfl rfl) ?_
    refine wo_store (i := 0) (vs := [(.int .i64 m.inputs), (.int .i64 m.outputs), v20]) sz27 rfl rfl rfl rfl rfl rfl (one_cons rfl (one_cons rfl (one_cons (orep_one h22) one_nil))) ?_
    refine wo_nil ?_
    refine wg_freeze (i := 2) rfl h22 fun R79 le80 h81 => ?_
    have h82 : VRep (tSl false (tSl false kEdge)) R79 v20 o17 := (sl_f h81)
    refine wg_ret ?_
    obtain rfl := Option.some.inj hd0
    refine body_end (D := []) (J := [box b5 [(.int .i64 m.inputs), (.int .i64 m.outputs), v20] 27, box b15 [(.int .i64 m.inputs), (.int .i64 m.outputs), v20] 27]) (rs := [.cell 2 27]) (vs := [(.agg #[(.int .i64 m.inputs), (.int .i64 m.outputs), v20])]) ((le4.trans le19).trans le80) rfl rfl ⟨⟨_, rfl, fun w hh => run_cellA (i := 0) hh rfl rfl ag27 sz27 rfl rfl⟩, trivial⟩ ?_
    exact ⟨rfl, (⟨_, ⟨_, _, rfl, rfl, ⟨_, _, rfl, rfl, (rep_one rfl h82)⟩⟩, rfl⟩ : VRep (kMach false false) _ _ (⟨m.inputs, m.outputs, o17⟩ : Mach))⟩
theorem en35 : Enters Try.prog 35 := enters_of Try.func35 rfl (by kernel_rfl)
theorem ar70 : ArrOk Try.prog 70 2 1 := arrOk_of (e := 5) Try.underlying70 (fun w => by kernel_rfl)
theorem c_gauntletref04_Copy_o {N : Nat} {R : RH} {m : Mach} {v_m : Value} (h_m : VRep (kMach false false) R v_m m) {r : Mach} (hd0 : gauntletref04_Copy_o N m = some r) : CallG Try.prog 35 #[v_m] R [] (fun v R' O' => ∃ u0_2 g0_2, v = .agg #[(.int .i64 r.inputs), (.int .i64 r.outputs), u0_2] ∧ O' = [g0_2] ∧ NRep false kEdge R' g0_2 u0_2 r.rows) := by
  refine callG_of_wg (args := [v_m]) Try.func35 rfl rfl fun A => ?_
  rw [gauntletref04_Copy_o] at hd0
  refine wg_seq ?_
  refine wg_region ?_
  refine wo_boxR (T := (kMach false false)) rfl rfl h_m fun v1 R3 le4 h2 => ?_
  refine wo_alloc rfl za27 fun b5 => ?_
  refine wo_nil ?_
  refine wg_seq ?_
  refine wg_region ?_
  refine wo_fieldR rfl fd27_0 pt_Mach0 rfl h2 fun v7 h8 => ?_
  refine wo_loadR rfl ty3 rfl h8 fun v9 h10 => ?_
  obtain rfl := vrep_int.1 h10
  refine wo_fieldR rfl fd27_1 pt_Mach1 rfl h2 fun v11 h12 => ?_
  refine wo_loadR rfl ty3 rfl h12 fun v13 h14 => ?_
  obtain rfl := vrep_int.1 h14
  refine wo_v rfl (val_buildL (ps := [(0, (.int .i64 m.inputs)), (1, (.int .i64 m.outputs))]) (v := (.agg #[(.int .i64 m.inputs), (.int .i64 m.outputs), (.slice none 0 0)])) rfl (fun w => by kernel_rfl)) ?_
  refine wo_alloc rfl za27 fun b15 => ?_
  refine wo_store (i := 0) (vs := [(.int .i64 m.inputs), (.int .i64 m.outputs), (.slice none 0 0)]) sz27 rfl rfl rfl rfl rfl rfl (one_cons rfl (one_cons rfl (one_cons rfl one_nil))) ?_
  refine wo_nil ?_
  replace hd0 := bd_some hd0; obtain ⟨o17, hd1, hd0⟩ := hd0
  refine wg_meet (γ := (List (List Edge)) × Value × Frag) true [4, 10, 11, 12, 13, 14, 17, 18, 19, 20, 21, 22, 23, 24, 25, 26, 27, 28, 15, 16] (fun g => []) (fun g => [box b5 [(.int .i64 0), (.int .i64 0), (.slice none 0 0)] 27, box b15 [(.int .i64 m.inputs), (.int .i64 m.outputs), g.2.1] 27, g.2.2] ++ A) (fun g R => o17 = g.1 ∧ NRep false kEdge R g.2.2 g.2.1 g.1 ∧ True) ?_ ?_
  ·
    refine wg_seq ?_
    refine wg_region ?_
    refine wo_v rfl (val_assign (v := (.int .i64 0)) rfl) ?_
    refine wo_nil ?_
    refine wg_block ?_
    refine wg_emp ?_
    refine wg_loopS (γ := Nat × Int × (List (List Edge)) × Value × Frag) true [10, 11, 12, 13, 14, 17, 18, 19, 20, 21, 22, 23, 24, 25, 26, 27, 28, 15, 16, 4] (fun g => [(4, (.int .i64 g.2.1))]) (fun g => [box b5 [(.int .i64 0), (.int .i64 0), (.slice none 0 0)] 27, box b15 [(.int .i64 m.inputs), (.int .i64 m.outputs), g.2.2.2.1] 27, g.2.2.2.2] ++ A) (fun g R => gauntletref04_Copy_o_L1 N m g.1 g.2.1 g.2.2.1 = some o17 ∧ NRep false kEdge R g.2.2.2.2 g.2.2.2.1 g.2.2.1 ∧ True) (fun g => g.1) (N, 0, ([] : List (List Edge)), (.slice none 0 0), emp) ⟨rfl, trivial⟩ ⟨[], (pk 2 rfl (pk 1 rfl (pk 0 rfl (List.Perm.refl _))))⟩ ⟨hd1, (nrep_of (n2_nil (t := false) (T := kEdge) (R := R3))), trivial⟩ (fun _ => rfl) ?_
    clear hd1
    rintro ⟨F26, x27, x28, v31, f32⟩ j76 D77 R29 hD78 le30 ⟨hd1, ⟨V34, h33⟩, _⟩
    obtain rfl := hD78 rfl
    rcases F26 with _ | F26
    · exact none_elim hd1
    replace hd1 : gauntletref04_Copy_o_L1 N m (F26 + 1) x27 x28 = some o17 := hd1; rw [gauntletref04_Copy_o_L1] at hd1
    refine wg_seq ?_
    refine wg_seq ?_
    refine wg_region ?_
    refine wo_v rfl (val_move (v := (.int .i64 x27)) rfl) ?_
    refine wo_fieldR rfl fd27_2 pt_Mach2 rfl (h2.mono le30) fun v36 h37 => ?_
    refine wo_loadR rfl ty25 rfl h37 fun v38 h39 => ?_
    refine wo_v rfl (val_lenR rfl Try.underlying25 rfl (sl_s h39)) ?_
    refine wo_v rfl (val_lss rfl rfl) ?_
    refine wo_nil ?_
    refine wg_cond rfl (fun e40 => ?_) (fun e40 => ?_)
    · replace hd1 := sel_t e40 hd1; clear e40
      refine wg_skip ?_
      refine wg_seq ?_
      refine wg_block ?_
      have g42 := (gd_some hd1).1; replace hd1 := (gd_some hd1).2
      have g43 := (gd_some hd1).1; replace hd1 := (gd_some hd1).2
      have g44 := (gd_some hd1).1; replace hd1 := (gd_some hd1).2
      refine wg_free [2, 8, 10, 12] [(fun es => phX (.pointer (some ⟨b15, 2, none⟩))), (fun es => phX v31), (fun es => (fun v _ => v.oneCell' = true)), (fun es => phP (tSl false (tSl false kEdge)) m.rows), (fun es => phR (tSl false (tSl false kEdge)) m.rows), (fun es => phX (.int .i64 x27)), (fun es => phP (tSl false kEdge) (ix m.rows x27)), (fun es => phR (tSl false kEdge) (ix m.rows x27)), (fun es => (fun v _ => v.oneCell' = true)), (fun es => (fun u R => VRep (tSl true tHdr) R u [(es.getD 1 undef)])), (fun es => (fun v _ => v.oneCell' = true)), (fun es => phX (.pointer (some ⟨b15, 2, none⟩))), (fun es => (fun _ _ => True))] (fun fl es R O => (fl = [false, false, false, false] ∧ O.Perm ([box b5 [(.int .i64 0), (.int .i64 0), (.slice none 0 0)] 27, box b15 [(.int .i64 m.inputs), (.int .i64 m.outputs), v31] 27, f32] ++ A) ∧ True) ∨ (fl = [true, false, false, false] ∧ ∃ (f_o41 : Frag), O.Perm ([box b5 [(.int .i64 0), (.int .i64 0), (.slice none 0 0)] 27, box b15 [(.int .i64 m.inputs), (.int .i64 m.outputs), v31] 27, f32, f_o41] ++ A) ∧ ORep kEdge R f_o41 (es.getD 0 undef) ([] : List Edge) ∧ capOf (es.getD 0 undef) = ([] : List Edge).length ∧ True) ∨ (fl = [true, true, false, false] ∧ ∃ (f_o41 : Frag), O.Perm ([box b5 [(.int .i64 0), (.int .i64 0), (.slice none 0 0)] 27, box b15 [(.int .i64 m.inputs), (.int .i64 m.outputs), v31] 27, f32, f_o41] ++ A) ∧ ORep kEdge R f_o41 (es.getD 1 undef) (([] : List Edge) ++ (ix m.rows x27)) ∧ True) ∨ (fl = [true, true, true, false] ∧ ∃ (f_o35 : Frag), O.Perm ([box b5 [(.int .i64 0), (.int .i64 0), (.slice none 0 0)] 27, box b15 [(.int .i64 m.inputs), (.int .i64 m.outputs), v31] 27, f_o35] ++ A) ∧ N2 false kEdge R f_o35 (es.getD 2 undef) (V34 ++ [(es.getD 1 undef)]) (x28 ++ [(([] : List Edge) ++ (ix m.rows x27))]) ∧ True) ∨ (fl = [true, true, true, true] ∧ ∃ (f_o35 : Frag), O.Perm ([box b5 [(.int .i64 0), (.int .i64 0), (.slice none 0 0)] 27, box b15 [(.int .i64 m.inputs), (.int .i64 m.outputs), (es.getD 2 undef)] 27, f_o35] ++ A) ∧ N2 false kEdge R f_o35 (es.getD 2 undef) (V34 ++ [(es.getD 1 undef)]) (x28 ++ [(([] : List Edge) ++ (ix m.rows x27))]) ∧ True)) mixed (by kernel_rfl) ⟨(monoE_of mono_x), (monoE_of mono_x), (fun _ _ _ _ _ h => h), (monoE_of mono_p), (monoE_of mono_r), (monoE_of mono_x), (monoE_of mono_p), (monoE_of mono_r), (fun _ _ _ _ _ h => h), (fun _ _ _ _ hle h => VRep.mono h hle), (fun _ _ _ _ _ h => h), (monoE_of mono_x), (fun _ _ _ _ _ h => h), trivial⟩ (by
          rintro fl es R R' O hle (⟨rfl, hp, _⟩ | ⟨rfl, f_o41, hp, h_o41, c_o41, _⟩ | ⟨rfl, f_o41, hp, h_o41, _⟩ | ⟨rfl, f_o35, hp, h_o35, _⟩ | ⟨rfl, f_o35, hp, h_o35, _⟩)
          · exact (.inl ⟨rfl, hp, trivial⟩)
          · exact (.inr (.inl ⟨rfl, f_o41, hp, (h_o41.mono hle), c_o41, trivial⟩))
          · exact (.inr (.inr (.inl ⟨rfl, f_o41, hp, (h_o41.mono hle), trivial⟩)))
          · exact (.inr (.inr (.inr (.inl ⟨rfl, f_o35, hp, (h_o35.mono hle), trivial⟩))))
          · exact (.inr (.inr (.inr (.inr ⟨rfl, f_o35, hp, (h_o35.mono hle), trivial⟩))))) ⟨(fun _ _ _ _ _ h => h), (fun _ _ _ _ _ h => h), (fun _ _ _ _ _ h => h), (fun _ _ _ _ _ h => h), (fun _ _ _ _ _ h => h), (fun _ _ _ _ _ h => h), (fun _ _ _ _ _ h => h), (fun _ _ _ _ _ h => h), (fun _ _ _ _ _ h => h), (fun es es' v R hs h => by have e1 := hs 1 (by kernel_rfl); show (fun u R => VRep (tSl true tHdr) R u [(es'.getD 1 undef)]) v R; rw [← e1]; exact h), (fun _ _ _ _ _ h => h), (fun _ _ _ _ _ h => h), (fun _ _ _ _ _ h => h), trivial⟩ (fun es => .inl ⟨rfl, (List.Perm.refl _), trivial⟩) ⟨?_, ?_, ?_, ?_, ?_, ?_, ?_, ?_, ?_, ?_, ?_, ?_, ?_, trivial⟩ fun R45 le46 => ?_
      · intro l R0q fl O hle ha hd hk hW
        have a3 : l 3 = (.pointer (some ⟨b15, 0, none⟩)) := ha 3 rfl
        exact ph_val (val_fieldB fd27_2 a3)
      · intro l R1q fl O hle ha hd hk hW
        obtain ⟨d0, _⟩ := hd
        have f17 : l 17 = (.pointer (some ⟨b15, 2, none⟩)) := d0 rfl
        rcases hW with ⟨rfl, hp, _⟩ | ⟨rfl, f_o41, hp, h_o41, c_o41, _⟩ | ⟨rfl, f_o41, hp, h_o41, _⟩ | ⟨rfl, f_o35, hp, h_o35, _⟩ | ⟨rfl, f_o35, hp, h_o35, _⟩
        · exact eff_permP hp (ph_val (val_loadB (i := 1) ag25 f17 rfl rfl))
        · exact eff_permP hp (ph_val (val_loadB (i := 1) ag25 f17 rfl rfl))
        · exact eff_permP hp (ph_val (val_loadB (i := 1) ag25 f17 rfl rfl))
        · exact kn_no hk (by kernel_rfl)
        · exact kn_no hk (by kernel_rfl)
      · intro l R2q fl O hle ha hd hk hf hW
        rcases hW with ⟨rfl, hp, _⟩ | ⟨rfl, f_o41, hp, h_o41, c_o41, _⟩ | ⟨rfl, f_o41, hp, h_o41, _⟩ | ⟨rfl, f_o35, hp, h_o35, _⟩ | ⟨rfl, f_o35, hp, h_o35, _⟩
        · refine eff_perm hp ?_
          refine eff_perm (O1 := [] ++ ([box b5 [(.int .i64 0), (.int .i64 0), (.slice none 0 0)] 27, box b15 [(.int .i64 m.inputs), (.int .i64 m.outputs), v31] 27, f32] ++ A)) (List.Perm.refl _) ?_
          refine Eff.mono (eff_litO (T := kEdge) (X := ([] : List Edge)) (ps := []) (css := []) Try.underlying41 zo40 rfl rfl (lit_reps trivial) rfl rfl (by decide)) ?_
          rintro v R' O' hle' ⟨_, rfl, rfl, f_o41, rfl, h_o41, c_o41⟩
          exact ⟨(orep_one h_o41), .inr (.inl ⟨rfl, f_o41, (pk 1 rfl (pk 1 rfl (pk 1 rfl (pk 0 rfl (List.Perm.refl _))))), h_o41, c_o41, trivial⟩)⟩
        · cases hf
        · cases hf
        · cases hf
        · cases hf
      · intro l R3q fl O hle ha hd hk hW
        have a1 : l 1 = v1 := ha 1 rfl
        exact ph_fieldR fd27_2 pt_Mach2 a1 ((h2.mono le30).mono hle)
      · intro l R4q fl O hle ha hd hk hW
        obtain ⟨d0, _⟩ := hd
        have f20 : phP (tSl false (tSl false kEdge)) m.rows (l 20) R4q := d0 rfl
        exact ph_loadR ty25 rfl f20
      · intro l R5q fl O hle ha hd hk hW
        have a4 : l 4 = (.int .i64 x27) := ha 4 rfl
        exact ph_val (val_move a4)
      · intro l R6q fl O hle ha hd hk hW
        obtain ⟨d0, d1, _⟩ := hd
        have f21 : phR (tSl false (tSl false kEdge)) m.rows (l 21) R6q := d0 rfl
        have f22 : l 22 = (.int .i64 x27) := d1 rfl
        exact ph_indexR (i := x27.toNat) sl25 rfl (sl_s f21) (idx_nonneg f22 g42.1) (okI_lt g42)
      · intro l R7q fl O hle ha hd hk hW
        obtain ⟨d0, _⟩ := hd
        have f23 : phP (tSl false kEdge) (ix m.rows x27) (l 23) R7q := d0 rfl
        exact ph_loadR ty41 rfl f23
      · intro l R8q fl O hle ha hd hk hf hW
        obtain ⟨d0, d1, _⟩ := hd
        have f19 : (l 19).oneCell' = true := d0 rfl
        have f24 : phR (tSl false kEdge) (ix m.rows x27) (l 24) R8q := d1 rfl
        rcases hW with ⟨rfl, hp, _⟩ | ⟨rfl, f_o41, hp, h_o41, c_o41, _⟩ | ⟨rfl, f_o41, hp, h_o41, _⟩ | ⟨rfl, f_o35, hp, h_o35, _⟩ | ⟨rfl, f_o35, hp, h_o35, _⟩
        · exact kn_no hk (by kernel_rfl)
        · refine eff_perm hp ?_
          refine Eff.mono (eff_append (i := 3) (X := ([] : List Edge)) (Y := (ix m.rows x27)) Try.underlying41 zo40 rfl rfl rfl h_o41 (sl_s (Sub.v (B := (tSl false kEdge)) Sub.refl f24)) g43.1 g43.2) ?_
          rintro v R' O' hle' ⟨rfl, f, rfl, ho⟩
          exact ⟨(orep_one ho), .inr (.inr (.inl ⟨rfl, f, (List.Perm.refl _), ho, trivial⟩))⟩
        · cases hf
        · cases hf
        · cases hf
      · intro l R9q fl O hle ha hd hk hW
        obtain ⟨d0, _⟩ := hd
        have f25 : (l 25).oneCell' = true := d0 rfl
        exact ph_litT (T := tHdr) (X := [(l 25)]) (ps := [(0, (l 25))]) (css := [[(l 25)]]) Try.underlying25 zh41 rfl (by simp only [List.map_cons, List.map_nil, (cells_of_one f25)]; rfl) (lit_reps ⟨hdr_rep (f25), trivial⟩) rfl rfl (by decide)
      · intro l R10q fl O hle ha hd hk hf hW
        obtain ⟨d0, d1, d2, _⟩ := hd
        have f18 : l 18 = v31 := d0 rfl
        have f26 : (fun u R => VRep (tSl true tHdr) R u [(l 25)]) (l 26) R10q := d1 rfl
        rcases hW with ⟨rfl, hp, _⟩ | ⟨rfl, f_o41, hp, h_o41, c_o41, _⟩ | ⟨rfl, f_o41, hp, h_o41, _⟩ | ⟨rfl, f_o35, hp, h_o35, _⟩ | ⟨rfl, f_o35, hp, h_o35, _⟩
        · exact kn_no hk (by kernel_rfl)
        · exact kn_no hk (by kernel_rfl)
        · refine eff_perm hp ?_
          refine eff_perm (O1 := [f32, f_o41] ++ ([box b5 [(.int .i64 0), (.int .i64 0), (.slice none 0 0)] 27, box b15 [(.int .i64 m.inputs), (.int .i64 m.outputs), v31] 27] ++ A)) (pk 2 rfl (pk 2 rfl (pk 0 rfl (pk 0 rfl (List.Perm.refl _))))) ?_
          refine Eff.mono (eff_appendN Try.underlying25 zh41 f18 rfl (h33.mono hle) h_o41 (sl_s f26) (fun e => nomatch e) g44.1 g44.2) ?_
          rintro v R' O' hle' ⟨_, rfl, rfl, f, rfl, h⟩
          exact ⟨(n2_one h), .inr (.inr (.inr (.inl ⟨rfl, f, (pk 1 rfl (pk 1 rfl (pk 0 rfl (List.Perm.refl _)))), h, trivial⟩)))⟩
        · cases hf
        · cases hf
      · intro l R11q fl O hle ha hd hk hW
        obtain ⟨d0, d1, d2, d3, d4, d5, d6, d7, d8, d9, d10, _⟩ := hd
        have a3 : l 3 = (.pointer (some ⟨b15, 0, none⟩)) := ha 3 rfl
        exact ph_val (val_fieldB fd27_2 a3)
      · intro l R12q fl O hle ha hd hk hf hW
        obtain ⟨d0, d1, d2, d3, d4, d5, d6, d7, d8, d9, d10, d11, d12, d13, _⟩ := hd
        have f28 : l 28 = (.pointer (some ⟨b15, 2, none⟩)) := d0 rfl
        have f27 : (l 27).oneCell' = true := d1 rfl
        rcases hW with ⟨rfl, hp, _⟩ | ⟨rfl, f_o41, hp, h_o41, c_o41, _⟩ | ⟨rfl, f_o41, hp, h_o41, _⟩ | ⟨rfl, f_o35, hp, h_o35, _⟩ | ⟨rfl, f_o35, hp, h_o35, _⟩
        · exact kn_no hk (by kernel_rfl)
        · exact kn_no hk (by kernel_rfl)
        · exact kn_no hk (by kernel_rfl)
        · refine eff_perm hp ?_
          refine Eff.mono (eff_store (i := 1) (vs := [(l 27)]) sz25 f28 rfl (n2_cells h_o35) rfl rfl (Nat.le_of_ble_eq_true rfl) (one_cons (n2_one h_o35) one_nil)) ?_
          rintro v R' O' hle' ⟨_, rfl, rfl⟩
          exact ⟨trivial, .inr (.inr (.inr (.inr ⟨rfl, f_o35, (List.Perm.refl _), h_o35, trivial⟩)))⟩
        · cases hf
      intro v47
      intro v48
      intro v49
      intro v50
      intro v51
      intro v52
      intro v53
      intro v54
      intro v55
      intro v56
      intro v57
      intro v58
      intro h59
      intro h60
      intro h61
      intro h62
      intro h63
      intro h64
      intro h65
      intro h66
      intro h67
      intro h68
      intro h69
      intro h70
      rintro OO71 (⟨e, _⟩ | ⟨e, _⟩ | ⟨e, _⟩ | ⟨e, _⟩ | ⟨_, f72, hp, h73, _⟩)
      · cases e
      · cases e
      · cases e
      · cases e
      refine ⟨[], _, hp, ?_⟩
      obtain rfl := Eq.symm h59
      obtain rfl := Eq.symm h60
      obtain rfl := Eq.symm h64
      obtain rfl := Eq.symm h70
      refine wo_nil ?_
      refine wg_region ?_
      refine wo_v rfl (val_move (v := (.int .i64 x27)) rfl) ?_
      have g75 := (gd_some hd1).1; replace hd1 := (gd_some hd1).2
      refine wo_v rfl (val_add rfl rfl g75) ?_
      refine wo_v rfl (val_assign (v := (.int .i64 (x27 + 1))) rfl) ?_
      refine wo_nil ?_
      exact ⟨(fun _ => rfl), le46, (by repeat (first | exact off_self | refine off_upd rfl ?_ | refine off_setl rfl ?_ | refine off_mask_sub rfl ?_)), (F26, x27 + 1, (x28 ++ [(([] : List Edge) ++ (ix m.rows x27))]), v57, f72), Nat.lt_succ_self _, ⟨rfl, trivial⟩, ⟨[], List.Perm.refl _⟩, hd1, (nrep_of h73), trivial⟩
    · replace hd1 := sel_f e40 hd1; clear e40
      refine wg_exit ?_
      exact ⟨(fun _ => rfl), le30, (by repeat (first | exact off_self | refine off_upd rfl ?_ | refine off_setl rfl ?_ | refine off_mask_sub rfl ?_)), (x28, v31, f32), trivial, ⟨[], List.Perm.refl _⟩, (Option.some.inj hd1).symm, (nrep_of h33), trivial⟩
  ·
    rintro ⟨o17, v20, f21⟩ j79 D80 R18 hD81 le19 ⟨rfl, ⟨V23, h22⟩, _⟩
    obtain rfl := hD81 rfl
    refine wg_seq ?_
    refine wg_region ?_
    refine wo_v rfl (val_loadBA (i := 1) ag27 sz27 rfl rfl rfl rfl) ?_
    refine wo_store (i := 0) (vs := [(.int .i64 m.inputs), (.int .i64 m.outputs), v20]) sz27 rfl rfl rfl rfl rfl rfl (one_cons rfl (one_cons rfl (one_cons (n2_one h22) one_nil))) ?_
    refine wo_nil ?_
    refine wg_ret ?_
    obtain rfl := Option.some.inj hd0
    refine body_endG (D := []) (J := [box b5 [(.int .i64 m.inputs), (.int .i64 m.outputs), v20] 27, box b15 [(.int .i64 m.inputs), (.int .i64 m.outputs), v20] 27]) (O' := [f21]) (rs := [.cell 2 27]) (vs := [(.agg #[(.int .i64 m.inputs), (.int .i64 m.outputs), v20])]) (le4.trans le19) ((pk 0 rfl (pk 0 rfl (pk 0 rfl (List.Perm.refl _))))) rfl ⟨⟨_, rfl, fun w hh => run_cellA (i := 0) hh rfl rfl ag27 sz27 rfl rfl⟩, trivial⟩ ?_
    exact ⟨v20, f21, rfl, rfl, (nrep_of h22)⟩
theorem c_machines_With_o {N : Nat} {R : RH} {m : Mach} {v_m : Value} (h_m : VRep (kMach false false) R v_m m) {s : Int} {i : Int} {x : Edge} {r : Mach × Int} (hd0 : machines_With_o N m s i x = some r) : CallG Try.prog 33 #[v_m, (.int .i64 s), (.int .i64 i), (enc_Edge x)] R [] (fun v R' O' => ∃ u0_2 g0_2, v = .tuple #[.agg #[(.int .i64 r.1.inputs), (.int .i64 r.1.outputs), u0_2], (.int .i64 r.2)] ∧ O' = [g0_2] ∧ NRep true kEdge R' g0_2 u0_2 r.1.rows ∧ capOf u0_2 = r.1.rows.length) := by
  refine callG_of_wg (args := [v_m, (.int .i64 s), (.int .i64 i), (enc_Edge x)]) Try.func33 rfl rfl fun A => ?_
  rw [machines_With_o] at hd0
  refine wg_seq ?_
  refine wg_region ?_
  refine wo_boxR (T := (kMach false false)) rfl rfl h_m fun v1 R3 le4 h2 => ?_
  refine wo_boxR (T := kEdge) rfl rfl (vrep_Edge.2 rfl) fun v5 R7 le8 h6 => ?_
  refine wo_alloc rfl za27 fun b9 => ?_
  refine wo_v rfl (val_assign (v := (.int .i64 0)) rfl) ?_
  refine wo_nil ?_
  refine wg_seq ?_
  refine wg_seq ?_
  refine wg_region ?_
  refine wo_loadR rfl ty27 rfl (h2.mono le8) fun v11 h12 => ?_
  refine wo_v rfl (val_move (v := (.int .i64 s)) rfl) ?_
  replace hd0 := bd_some hd0; obtain ⟨y13, c14, hd0⟩ := hd0
  refine wo_callP rfl en42 rfl (c_machines_state h12 c14) fun v15 R17 le18 h16 => ?_
  obtain rfl := h16
  refine wo_v rfl (val_assign (v := (.int .i64 y13)) rfl) ?_
  refine wo_nil ?_
  refine wg_seq ?_
  refine wg_region ?_
  refine wo_v rfl (val_move (v := (.int .i64 y13)) rfl) ?_
  refine wo_v rfl (val_neq rfl rfl) ?_
  refine wo_nil ?_
  refine wg_cond rfl (fun e19 => ?_) (fun e19 => ?_)
  · replace hd0 := sel_t e19 hd0; clear e19
    refine wg_seq ?_
    refine wg_region ?_
    refine wo_v rfl (val_buildL (ps := []) (v := (.agg #[(.int .i64 0), (.int .i64 0), (.slice none 0 0)])) rfl (fun w => by kernel_rfl)) ?_
    refine wo_v rfl (val_move (v := (.int .i64 y13)) rfl) ?_
    refine wo_store (i := 0) (vs := [(.int .i64 0), (.int .i64 0), (.slice none 0 0)]) sz27 rfl rfl rfl rfl rfl rfl (one_cons rfl (one_cons rfl (one_cons rfl one_nil))) ?_
    refine wo_v rfl (val_assign (v := (.int .i64 y13)) rfl) ?_
    refine wo_nil ?_
    refine wg_emp ?_
    refine wg_ret ?_
    obtain rfl := Option.some.inj hd0
    refine body_endG (D := []) (J := [box b9 [(.int .i64 0), (.int .i64 0), (.slice none 0 0)] 27]) (O' := [emp]) (rs := [.cell 8 27, .tmp 9]) (vs := [(.agg #[(.int .i64 0), (.int .i64 0), (.slice none 0 0)]), (.int .i64 y13)]) ((le4.trans le8).trans le18) ((pk 1 rfl (pk 0 rfl (List.Perm.refl _)))) rfl ⟨⟨_, rfl, fun w hh => run_cellA (i := 1) hh rfl rfl ag27 sz27 rfl rfl⟩, rfl, trivial⟩ ?_
    exact ⟨(.slice none 0 0), emp, rfl, rfl, (nrep_of (n2_nil (t := true) (T := kEdge) (R := R17))), rfl⟩
  · replace hd0 := sel_f e19 hd0; clear e19
    refine wg_skip ?_
    refine wg_seq ?_
    refine wg_seq ?_
    replace hd0 := bd_some hd0; obtain ⟨y21, c22, hd0⟩ := hd0
    refine wg_guarded 14 [] [phX (.int .i64 i), phX (.bool (decide (i < 0))), phX (.bool (decide (i < 0))), phG (true && ((decide (i < 0)) == false)) (phX (.int .i64 i)), phG (true && ((decide (i < 0)) == false)) (phP (tInt .i64) m.inputs), phG (true && ((decide (i < 0)) == false)) (phX (.int .i64 m.inputs)), phG (true && ((decide (i < 0)) == false)) (phX (.bool (decide (m.inputs ≤ i)))), phX (.bool ((decide (i < 0)) || (decide (m.inputs ≤ i)))), phX (.bool ((decide (i < 0)) || (decide (m.inputs ≤ i)))), phG (true && (((decide (i < 0)) || (decide (m.inputs ≤ i))) == false)) (phR (kMach false false) m), phG (true && (((decide (i < 0)) || (decide (m.inputs ≤ i))) == false)) (phX (enc_Edge x)), phG (true && (((decide (i < 0)) || (decide (m.inputs ≤ i))) == false)) (phX (.bool (y21.getD default))), phG (true && (((decide (i < 0)) || (decide (m.inputs ≤ i))) == false)) (phX (.bool (!(y21.getD default)))), phX (.bool (((decide (i < 0)) || (decide (m.inputs ≤ i))) || (!(y21.getD default))))] (by kernel_rfl) (by kernel_rfl) (monoOk_of ⟨mono_x, mono_x, mono_x, (mono_g mono_x), (mono_g mono_p), (mono_g mono_x), (mono_g mono_x), mono_x, mono_x, (mono_g mono_r), (mono_g mono_x), (mono_g mono_x), (mono_g mono_x), mono_x, trivial⟩) ⟨?_, ?_, ?_, ?_, ?_, ?_, ?_, ?_, ?_, ?_, ?_, ?_, ?_, ?_, trivial⟩ fun R23 le24 => ?_
    · intro l R0q hle ha hd
      have a2 : l 2 = (.int .i64 i) := ha 2 rfl
      exact gstep_plain rfl rfl rfl (ph_val (val_move a2))
    · intro l R1q hle ha hd
      obtain ⟨d0, _⟩ := hd
      have f21 : l 21 = (.int .i64 i) := d0 rfl
      exact gstep_plain rfl rfl rfl (ph_val (val_lss f21 rfl))
    · intro l R2q hle ha hd
      obtain ⟨d0, _⟩ := hd
      have f22 : l 22 = (.bool (decide (i < 0))) := d0 rfl
      exact gstep_plain rfl rfl rfl (ph_val (val_move f22))
    · intro l R3q hle ha hd
      obtain ⟨d0, _⟩ := hd
      have a2 : l 2 = (.int .i64 i) := ha 2 rfl
      exact gstep_guard (Gj := true) (Bj := decide (i < 0)) rfl rfl rfl (gtrue (d0 rfl)) rfl (fun hG hB => ph_val (val_move a2))
    · intro l R4q hle ha hd
      obtain ⟨d0, _⟩ := hd
      have a4 : l 4 = v1 := ha 4 rfl
      exact gstep_guard (Gj := true) (Bj := decide (i < 0)) rfl rfl rfl (gtrue (d0 rfl)) rfl (fun hG hB => ph_fieldR fd27_0 pt_Mach0 a4 ((h2.mono (le8.trans le18)).mono hle))
    · intro l R5q hle ha hd
      obtain ⟨d0, d1, _⟩ := hd
      have f25g : phG (true && ((decide (i < 0)) == false)) (phP (tInt .i64) m.inputs) (l 25) R5q := d0 rfl
      exact gstep_guard (Gj := true) (Bj := decide (i < 0)) rfl rfl rfl (gtrue (d1 rfl)) rfl (fun hG hB => ph_exact (ph_loadR ty3 rfl (f25g.1 (gandT rfl hB))) (fun _ _ h => vrep_int.1 h))
    · intro l R6q hle ha hd
      obtain ⟨d0, d1, d2, _⟩ := hd
      have f24g : phG (true && ((decide (i < 0)) == false)) (phX (.int .i64 i)) (l 24) R6q := d0 rfl
      have f26g : phG (true && ((decide (i < 0)) == false)) (phX (.int .i64 m.inputs)) (l 26) R6q := d1 rfl
      exact gstep_guard (Gj := true) (Bj := decide (i < 0)) rfl rfl rfl (gtrue (d2 rfl)) rfl (fun hG hB => ph_val (val_geq (show l 24 = (.int .i64 i) from f24g.1 (gandT rfl hB)) (show l 26 = (.int .i64 m.inputs) from f26g.1 (gandT rfl hB))))
    · intro l R7q hle ha hd
      obtain ⟨d0, d1, _⟩ := hd
      have f23 : l 23 = (.bool (decide (i < 0))) := d0 rfl
      have f27g : phG (true && ((decide (i < 0)) == false)) (phX (.bool (decide (m.inputs ≤ i)))) (l 27) R7q := d1 rfl
      exact gstep_plain rfl rfl rfl (ph_val (val_or f23 rfl (fun hb => (show l 27 = (.bool (decide (m.inputs ≤ i))) from f27g.1 (gandT rfl hb)))))
    · intro l R8q hle ha hd
      obtain ⟨d0, d1, _⟩ := hd
      have f28 : l 28 = (.bool ((decide (i < 0)) || (decide (m.inputs ≤ i)))) := d0 rfl
      exact gstep_plain rfl rfl rfl (ph_val (val_move f28))
    · intro l R9q hle ha hd
      obtain ⟨d0, _⟩ := hd
      have a4 : l 4 = v1 := ha 4 rfl
      exact gstep_guard (Gj := true) (Bj := (decide (i < 0)) || (decide (m.inputs ≤ i))) rfl rfl rfl (gtrue (d0 rfl)) rfl (fun hG hB => ph_loadR ty27 a4 ((h2.mono (le8.trans le18)).mono hle))
    · intro l R10q hle ha hd
      obtain ⟨d0, _⟩ := hd
      have a7 : l 7 = v5 := ha 7 rfl
      exact gstep_guard (Gj := true) (Bj := (decide (i < 0)) || (decide (m.inputs ≤ i))) rfl rfl rfl (gtrue (d0 rfl)) rfl (fun hG hB => ph_exact (ph_loadR ty40 a7 ((h6.mono le18).mono hle)) (fun _ _ h => vrep_Edge.1 h))
    · intro l R11q hle ha hd
      obtain ⟨d0, d1, d2, d3, _⟩ := hd
      have f30g : phG (true && (((decide (i < 0)) || (decide (m.inputs ≤ i))) == false)) (phR (kMach false false) m) (l 30) R11q := d0 rfl
      have f31g : phG (true && (((decide (i < 0)) || (decide (m.inputs ≤ i))) == false)) (phX (enc_Edge x)) (l 31) R11q := d1 rfl
      exact gstep_guard (Gj := true) (Bj := (decide (i < 0)) || (decide (m.inputs ≤ i))) rfl rfl rfl (gtrue (d2 rfl)) rfl (fun hG hB => ph_callP (vs := [(l 30), (enc_Edge x)]) en49 (by simp only [List.map, ev, (show l 31 = (enc_Edge x) from f31g.1 (gandT rfl hB))] <;> rfl) ((by have z := (gop_def c22 (gandT hG hB)); exact c_machines_fits (f30g.1 (gandT rfl hB)) z)) (fun _ _ h => h))
    · intro l R12q hle ha hd
      obtain ⟨d0, d1, _⟩ := hd
      have f32g : phG (true && (((decide (i < 0)) || (decide (m.inputs ≤ i))) == false)) (phX (.bool (y21.getD default))) (l 32) R12q := d0 rfl
      exact gstep_guard (Gj := true) (Bj := (decide (i < 0)) || (decide (m.inputs ≤ i))) rfl rfl rfl (gtrue (d1 rfl)) rfl (fun hG hB => ph_val (val_not (show l 32 = (.bool (y21.getD default)) from f32g.1 (gandT rfl hB))))
    · intro l R13q hle ha hd
      obtain ⟨d0, d1, _⟩ := hd
      have f29 : l 29 = (.bool ((decide (i < 0)) || (decide (m.inputs ≤ i)))) := d0 rfl
      have f33g : phG (true && (((decide (i < 0)) || (decide (m.inputs ≤ i))) == false)) (phX (.bool (!(y21.getD default)))) (l 33) R13q := d1 rfl
      exact gstep_plain rfl rfl rfl (ph_val (val_or f29 rfl (fun hb => (show l 33 = (.bool (!(y21.getD default))) from f33g.1 (gandT rfl hb)))))
    intro v25 h26
    intro v27 h28
    intro v29 h30
    intro v31 h32
    intro v33 h34
    intro v35 h36
    intro v37 h38
    intro v39 h40
    intro v41 h42
    intro v43 h44
    intro v45 h46
    intro v47 h48
    intro v49 h50
    intro v51 h52
    obtain rfl := Eq.symm h26
    obtain rfl := Eq.symm h28
    obtain rfl := Eq.symm h30
    obtain rfl := Eq.symm h40
    obtain rfl := Eq.symm h42
    obtain rfl := Eq.symm h52
    refine wo_nil ?_
    refine wg_cond rfl (fun e53 => ?_) (fun e53 => ?_)
    · replace hd0 := sel_t e53 hd0; clear e53
      refine wg_seq ?_
      refine wg_region ?_
      refine wo_v rfl (val_buildL (ps := []) (v := (.agg #[(.int .i64 0), (.int .i64 0), (.slice none 0 0)])) rfl (fun w => by kernel_rfl)) ?_
      refine wo_store (i := 0) (vs := [(.int .i64 0), (.int .i64 0), (.slice none 0 0)]) sz27 rfl rfl rfl rfl rfl rfl (one_cons rfl (one_cons rfl (one_cons rfl one_nil))) ?_
      refine wo_v rfl (val_assign (v := (.int .i64 1)) rfl) ?_
      refine wo_nil ?_
      refine wg_emp ?_
      refine wg_ret ?_
      obtain rfl := Option.some.inj hd0
      refine body_endG (D := []) (J := [box b9 [(.int .i64 0), (.int .i64 0), (.slice none 0 0)] 27]) (O' := [emp]) (rs := [.cell 8 27, .tmp 9]) (vs := [(.agg #[(.int .i64 0), (.int .i64 0), (.slice none 0 0)]), (.int .i64 1)]) (((le4.trans le8).trans le18).trans le24) ((pk 1 rfl (pk 0 rfl (List.Perm.refl _)))) rfl ⟨⟨_, rfl, fun w hh => run_cellA (i := 1) hh rfl rfl ag27 sz27 rfl rfl⟩, rfl, trivial⟩ ?_
      exact ⟨(.slice none 0 0), emp, rfl, rfl, (nrep_of (n2_nil (t := true) (T := kEdge) (R := R23))), rfl⟩
    · replace hd0 := sel_f e53 hd0; clear e53
      refine wg_skip ?_
      refine wg_seq ?_
      have g55 := (gd_some hd0).1; replace hd0 := (gd_some hd0).2
      refine wg_free [7, 9, 10] [(fun es => phP (tInt .i64) m.inputs), (fun es => phX (.int .i64 m.inputs)), (fun es => phP (tInt .i64) m.outputs), (fun es => phX (.int .i64 m.outputs)), (fun es => phP (tSl false (tSl false kEdge)) m.rows), (fun es => phR (tSl false (tSl false kEdge)) m.rows), (fun es => phX (.int .i64 (↑m.rows.length : Int))), (fun es => (fun v _ => v.oneCell' = true)), (fun es => phX (.agg #[(.int .i64 m.inputs), (.int .i64 m.outputs), (es.getD 0 undef)])), (fun es => (fun v _ => v = .pointer (some ⟨blkOf v, 0, none⟩))), (fun es => (fun _ _ => True))] (fun fl es R O => (fl = [false, false, false] ∧ O.Perm ([box b9 [(.int .i64 0), (.int .i64 0), (.slice none 0 0)] 27] ++ A) ∧ True) ∨ (fl = [true, false, false] ∧ ∃ (f_o56 : Frag), O.Perm ([box b9 [(.int .i64 0), (.int .i64 0), (.slice none 0 0)] 27, f_o56] ++ A) ∧ N2 true kEdge R f_o56 (es.getD 0 undef) (List.replicate (↑m.rows.length : Int).toNat (.slice none 0 0)) (mk (↑m.rows.length : Int) ([] : List Edge)) ∧ capOf (es.getD 0 undef) = (mk (↑m.rows.length : Int) ([] : List Edge)).length ∧ True) ∨ (fl = [false, true, false] ∧ O.Perm ([box b9 [(.int .i64 0), (.int .i64 0), (.slice none 0 0)] 27, box (blkOf (es.getD 1 undef)) [(.int .i64 0), (.int .i64 0), (.slice none 0 0)] 27] ++ A) ∧ True) ∨ (fl = [true, true, false] ∧ ∃ (f_o56 : Frag), O.Perm ([box b9 [(.int .i64 0), (.int .i64 0), (.slice none 0 0)] 27, f_o56, box (blkOf (es.getD 1 undef)) [(.int .i64 0), (.int .i64 0), (.slice none 0 0)] 27] ++ A) ∧ N2 true kEdge R f_o56 (es.getD 0 undef) (List.replicate (↑m.rows.length : Int).toNat (.slice none 0 0)) (mk (↑m.rows.length : Int) ([] : List Edge)) ∧ capOf (es.getD 0 undef) = (mk (↑m.rows.length : Int) ([] : List Edge)).length ∧ True) ∨ (fl = [true, true, true] ∧ ∃ (f_o56 : Frag), O.Perm ([box b9 [(.int .i64 0), (.int .i64 0), (.slice none 0 0)] 27, f_o56, box (blkOf (es.getD 1 undef)) [(.int .i64 m.inputs), (.int .i64 m.outputs), (es.getD 0 undef)] 27] ++ A) ∧ N2 true kEdge R f_o56 (es.getD 0 undef) (List.replicate (↑m.rows.length : Int).toNat (.slice none 0 0)) (mk (↑m.rows.length : Int) ([] : List Edge)) ∧ capOf (es.getD 0 undef) = (mk (↑m.rows.length : Int) ([] : List Edge)).length ∧ True)) mixed (by kernel_rfl) ⟨(monoE_of mono_p), (monoE_of mono_x), (monoE_of mono_p), (monoE_of mono_x), (monoE_of mono_p), (monoE_of mono_r), (monoE_of mono_x), (fun _ _ _ _ _ h => h), (fun _ _ _ _ _ h => h), (fun _ _ _ _ _ h => h), (fun _ _ _ _ _ h => h), trivial⟩ (by
          rintro fl es R R' O hle (⟨rfl, hp, _⟩ | ⟨rfl, f_o56, hp, h_o56, c_o56, _⟩ | ⟨rfl, hp, _⟩ | ⟨rfl, f_o56, hp, h_o56, c_o56, _⟩ | ⟨rfl, f_o56, hp, h_o56, c_o56, _⟩)
          · exact (.inl ⟨rfl, hp, trivial⟩)
          · exact (.inr (.inl ⟨rfl, f_o56, hp, (h_o56.mono hle), c_o56, trivial⟩))
          · exact (.inr (.inr (.inl ⟨rfl, hp, trivial⟩)))
          · exact (.inr (.inr (.inr (.inl ⟨rfl, f_o56, hp, (h_o56.mono hle), c_o56, trivial⟩))))
          · exact (.inr (.inr (.inr (.inr ⟨rfl, f_o56, hp, (h_o56.mono hle), c_o56, trivial⟩))))) ⟨(fun _ _ _ _ _ h => h), (fun _ _ _ _ _ h => h), (fun _ _ _ _ _ h => h), (fun _ _ _ _ _ h => h), (fun _ _ _ _ _ h => h), (fun _ _ _ _ _ h => h), (fun _ _ _ _ _ h => h), (fun _ _ _ _ _ h => h), (fun es es' v R hs h => by have e0 := hs 0 (by kernel_rfl); show phX (.agg #[(.int .i64 m.inputs), (.int .i64 m.outputs), (es'.getD 0 undef)]) v R; rw [← e0]; exact h), (fun _ _ _ _ _ h => h), (fun _ _ _ _ _ h => h), trivial⟩ (fun es => .inl ⟨rfl, (List.Perm.refl _), trivial⟩) ⟨?_, ?_, ?_, ?_, ?_, ?_, ?_, ?_, ?_, ?_, ?_, trivial⟩ fun R58 le59 => ?_
      · intro l R0q fl O hle ha hd hk hW
        have a4 : l 4 = v1 := ha 4 rfl
        exact ph_fieldR fd27_0 pt_Mach0 a4 ((h2.mono ((le8.trans le18).trans le24)).mono hle)
      · intro l R1q fl O hle ha hd hk hW
        obtain ⟨d0, _⟩ := hd
        have f36 : phP (tInt .i64) m.inputs (l 36) R1q := d0 rfl
        exact ph_exact (ph_loadR ty3 rfl f36) (fun _ _ h => vrep_int.1 h)
      · intro l R2q fl O hle ha hd hk hW
        have a4 : l 4 = v1 := ha 4 rfl
        exact ph_fieldR fd27_1 pt_Mach1 a4 ((h2.mono ((le8.trans le18).trans le24)).mono hle)
      · intro l R3q fl O hle ha hd hk hW
        obtain ⟨d0, _⟩ := hd
        have f38 : phP (tInt .i64) m.outputs (l 38) R3q := d0 rfl
        exact ph_exact (ph_loadR ty3 rfl f38) (fun _ _ h => vrep_int.1 h)
      · intro l R4q fl O hle ha hd hk hW
        have a4 : l 4 = v1 := ha 4 rfl
        exact ph_fieldR fd27_2 pt_Mach2 a4 ((h2.mono ((le8.trans le18).trans le24)).mono hle)
      · intro l R5q fl O hle ha hd hk hW
        obtain ⟨d0, _⟩ := hd
        have f40 : phP (tSl false (tSl false kEdge)) m.rows (l 40) R5q := d0 rfl
        exact ph_loadR ty25 rfl f40
      · intro l R6q fl O hle ha hd hk hW
        obtain ⟨d0, _⟩ := hd
        have f41 : phR (tSl false (tSl false kEdge)) m.rows (l 41) R6q := d0 rfl
        exact ph_val (val_lenR rfl Try.underlying25 rfl (sl_s f41))
      · intro l R7q fl O hle ha hd hk hf hW
        obtain ⟨d0, d1, _⟩ := hd
        have f42 : l 42 = (.int .i64 (↑m.rows.length : Int)) := d0 rfl
        rcases hW with ⟨rfl, hp, _⟩ | ⟨rfl, f_o56, hp, h_o56, c_o56, _⟩ | ⟨rfl, hp, _⟩ | ⟨rfl, f_o56, hp, h_o56, c_o56, _⟩ | ⟨rfl, f_o56, hp, h_o56, c_o56, _⟩
        · refine eff_perm hp ?_
          refine eff_perm (O1 := [] ++ ([box b9 [(.int .i64 0), (.int .i64 0), (.slice none 0 0)] 27] ++ A)) (List.Perm.refl _) ?_
          refine Eff.mono (eff_nmake (t := true) (T := kEdge) (n := (↑m.rows.length : Int).toNat) Try.underlying25 zh41 (idx_nonneg f42 g55.1) (idx_nonneg f42 g55.1) (okM_b g55) (okM_n g55)) ?_
          rintro v R' O' hle' ⟨_, rfl, rfl, f_o56, rfl, h_o56, c_o56z⟩
          exact ⟨(n2_one h_o56), .inr (.inl ⟨rfl, f_o56, (pk 1 rfl (pk 0 rfl (List.Perm.refl _))), h_o56, (c_o56z.trans List.length_replicate.symm), trivial⟩)⟩
        · cases hf
        · refine eff_perm hp ?_
          refine eff_perm (O1 := [] ++ ([box b9 [(.int .i64 0), (.int .i64 0), (.slice none 0 0)] 27, box (blkOf (l 11)) [(.int .i64 0), (.int .i64 0), (.slice none 0 0)] 27] ++ A)) (List.Perm.refl _) ?_
          refine Eff.mono (eff_nmake (t := true) (T := kEdge) (n := (↑m.rows.length : Int).toNat) Try.underlying25 zh41 (idx_nonneg f42 g55.1) (idx_nonneg f42 g55.1) (okM_b g55) (okM_n g55)) ?_
          rintro v R' O' hle' ⟨_, rfl, rfl, f_o56, rfl, h_o56, c_o56z⟩
          exact ⟨(n2_one h_o56), .inr (.inr (.inr (.inl ⟨rfl, f_o56, (pk 1 rfl (pk 0 rfl (pk 0 rfl (List.Perm.refl _)))), h_o56, (c_o56z.trans List.length_replicate.symm), trivial⟩)))⟩
        · cases hf
        · cases hf
      · intro l R8q fl O hle ha hd hk hW
        obtain ⟨d0, d1, d2, _⟩ := hd
        have f37 : l 37 = (.int .i64 m.inputs) := d0 rfl
        have f39 : l 39 = (.int .i64 m.outputs) := d1 rfl
        have f43 : (l 43).oneCell' = true := d2 rfl
        exact ph_val (val_buildC [(0, (.int .i64 m.inputs)), (1, (.int .i64 m.outputs)), (2, (.agg #[(l 43)]))] (ps := [(0, (.int .i64 m.inputs)), (1, (.int .i64 m.outputs)), (2, (l 43))]) (v := (.agg #[(.int .i64 m.inputs), (.int .i64 m.outputs), (l 43)])) (by simp only [List.map, ev, f37, f39] <;> rfl) (by simp only [List.map_cons, List.map_nil, (cells_of_one f43)]; rfl) (fun w => by kernel_rfl))
      · intro l R9q fl O hle ha hd hk hf hW
        rcases hW with ⟨rfl, hp, _⟩ | ⟨rfl, f_o56, hp, h_o56, c_o56, _⟩ | ⟨rfl, hp, _⟩ | ⟨rfl, f_o56, hp, h_o56, c_o56, _⟩ | ⟨rfl, f_o56, hp, h_o56, c_o56, _⟩
        · refine eff_perm hp ?_
          refine Eff.mono (eff_alloc za27) ?_
          rintro v R' O' hle' ⟨rfl, b, rfl, rfl⟩
          exact ⟨rfl, .inr (.inr (.inl ⟨rfl, (pk 1 rfl (pk 0 rfl (List.Perm.refl _))), trivial⟩))⟩
        · refine eff_perm hp ?_
          refine Eff.mono (eff_alloc za27) ?_
          rintro v R' O' hle' ⟨rfl, b, rfl, rfl⟩
          exact ⟨rfl, .inr (.inr (.inr (.inl ⟨rfl, f_o56, (pk 1 rfl (pk 1 rfl (pk 0 rfl (List.Perm.refl _)))), h_o56, c_o56, trivial⟩)))⟩
        · cases hf
        · cases hf
        · cases hf
      · intro l R10q fl O hle ha hd hk hf hW
        obtain ⟨d0, d1, d2, d3, d4, d5, d6, d7, d8, d9, d10, d11, _⟩ := hd
        have f11 : l 11 = (.pointer (some ⟨(blkOf (l 11)), 0, none⟩)) := d0 rfl
        have f44 : l 44 = (.agg #[(.int .i64 m.inputs), (.int .i64 m.outputs), (l 43)]) := d1 rfl
        rcases hW with ⟨rfl, hp, _⟩ | ⟨rfl, f_o56, hp, h_o56, c_o56, _⟩ | ⟨rfl, hp, _⟩ | ⟨rfl, f_o56, hp, h_o56, c_o56, _⟩ | ⟨rfl, f_o56, hp, h_o56, c_o56, _⟩
        · exact kn_no hk (by kernel_rfl)
        · exact kn_no hk (by kernel_rfl)
        · exact kn_no hk (by kernel_rfl)
        · refine eff_perm hp ?_
          refine Eff.mono (eff_store (i := 2) (vs := [(.int .i64 m.inputs), (.int .i64 m.outputs), (l 43)]) sz27 f11 f44 rfl rfl rfl (Nat.le_of_ble_eq_true rfl) (one_cons rfl (one_cons rfl (one_cons (n2_one h_o56) one_nil)))) ?_
          rintro v R' O' hle' ⟨_, rfl, rfl⟩
          exact ⟨trivial, .inr (.inr (.inr (.inr ⟨rfl, f_o56, (List.Perm.refl _), h_o56, c_o56, trivial⟩)))⟩
        · cases hf
      intro v60
      intro v61
      intro v62
      intro v63
      intro v64
      intro v65
      intro v66
      intro v67
      intro v68
      intro v69
      intro h70
      intro h71
      intro h72
      intro h73
      intro h74
      intro h75
      intro h76
      intro h77
      intro h78
      intro h79
      rintro OO80 (⟨e, _⟩ | ⟨e, _⟩ | ⟨e, _⟩ | ⟨e, _⟩ | ⟨_, f81, hp, h82, c83, _⟩)
      · cases e
      · cases e
      · cases e
      · cases e
      refine ⟨[], _, hp, ?_⟩
      obtain ⟨b84, rfl⟩ : ∃ b, v69 = .pointer (some ⟨b, 0, none⟩) := ⟨_, h79⟩
      obtain rfl := Eq.symm h71
      obtain rfl := Eq.symm h73
      obtain rfl := Eq.symm h76
      replace h78 : phX (.agg #[(.int .i64 m.inputs), (.int .i64 m.outputs), v67]) v68 R58 := h78
      obtain rfl := Eq.symm h78
      refine wo_nil ?_
      replace hd0 := bd_some hd0; obtain ⟨o85, hd1, hd0⟩ := hd0
      refine wg_meet (γ := (List (List Edge)) × Frag) true [45, 46, 47, 48, 49, 50, 51, 52, 12, 13, 53, 54, 55, 56, 57, 58, 59, 60] (fun g => []) (fun g => [box b9 [(.int .i64 0), (.int .i64 0), (.slice none 0 0)] 27, box b84 [(.int .i64 m.inputs), (.int .i64 m.outputs), v67] 27, g.2] ++ A) (fun g R => o85 = g.1 ∧ NRep true kEdge R g.2 v67 g.1 ∧ capOf v67 = g.1.length ∧ True) ?_ ?_
      ·
        refine wg_seq ?_
        refine wg_region ?_
        refine wo_fieldR rfl fd27_2 pt_Mach2 rfl (h2.mono (((le8.trans le18).trans le24).trans le59)) fun v92 h93 => ?_
        refine wo_loadR rfl ty25 rfl h93 fun v94 h95 => ?_
        refine wo_v rfl (val_lenR rfl Try.underlying25 rfl (sl_s h95)) ?_
        refine wo_v rfl (val_move (v := (.int .i64 0)) rfl) ?_
        refine wo_nil ?_
        refine wg_block ?_
        refine wg_loopS (γ := Nat × Int × (List (List Edge)) × Frag) true [49, 50, 51, 52, 12, 13, 53, 54, 55, 56, 57, 58, 59, 60, 48] (fun g => [(48, (.int .i64 g.2.1))]) (fun g => [box b9 [(.int .i64 0), (.int .i64 0), (.slice none 0 0)] 27, box b84 [(.int .i64 m.inputs), (.int .i64 m.outputs), v67] 27, g.2.2.2] ++ A) (fun g R => machines_With_o_L1 N m g.1 g.2.1 g.2.2.1 = some o85 ∧ NRep true kEdge R g.2.2.2 v67 g.2.2.1 ∧ capOf v67 = g.2.2.1.length ∧ True) (fun g => g.1) (N, 0, (mk (↑m.rows.length : Int) ([] : List Edge)), f81) ⟨rfl, trivial⟩ ⟨[], (pk 0 rfl (pk 1 rfl (pk 0 rfl (List.Perm.refl _))))⟩ ⟨hd1, (nrep_of h82), c83, trivial⟩ (fun _ => rfl) ?_
        clear hd1
        rintro ⟨F96, x97, x98, f101⟩ j139 D140 R99 hD141 le100 ⟨hd1, ⟨V103, h102⟩, ht104, _⟩
        obtain rfl := hD141 rfl
        rcases F96 with _ | F96
        · exact none_elim hd1
        replace hd1 : machines_With_o_L1 N m (F96 + 1) x97 x98 = some o85 := hd1; rw [machines_With_o_L1] at hd1
        refine wg_seq ?_
        refine wg_region ?_
        refine wo_v rfl (val_lss rfl rfl) ?_
        refine wo_nil ?_
        refine wg_seq ?_
        refine wg_cond rfl (fun e105 => ?_) (fun e105 => ?_)
        · replace hd1 := sel_t e105 hd1; clear e105
          refine wg_skip ?_
          refine wg_seq ?_
          refine wg_block ?_
          refine wg_seq ?_
          refine wg_region ?_
          refine wo_v rfl (val_move (v := (.int .i64 x97)) rfl) ?_
          have g106 := (gd_some hd1).1; replace hd1 := (gd_some hd1).2
          refine wo_indexR (i := x97.toNat) rfl sl25 rfl (sl_s (h95.mono le100)) (idx_nonneg rfl g106.1) (okI_lt g106) fun v107 h108 => ?_
          refine wo_loadR rfl ty41 rfl h108 fun v109 h110 => ?_
          refine wo_v rfl (val_assign (v := (.int .i64 x97)) rfl) ?_
          refine wo_v rfl (val_assign (v := v109) rfl) ?_
          refine wo_nil ?_
          replace hd1 := bd_some hd1; obtain ⟨y111, c112, hd1⟩ := hd1
          replace hd1 := bd_some hd1; obtain ⟨y114, c115, hd1⟩ := hd1
          have g117 := (gd_some hd1).1; replace hd1 := (gd_some hd1).2
          refine wg_free [4, 5, 7] [(fun es => phX (.pointer (some ⟨b84, 2, none⟩))), (fun es => phX v67), (fun es => phX (.int .i64 x97)), (fun es => phX v109), (fun es => (fun v _ => v.oneCell' = true)), (fun es => (fun v _ => v.oneCell' = true)), (fun es => (fun u _ => OPtr tHdr v67 V103 u x97.toNat)), (fun es => (fun _ _ => True))] (fun fl es R O => (fl = [false, false, false] ∧ O.Perm ([box b9 [(.int .i64 0), (.int .i64 0), (.slice none 0 0)] 27, box b84 [(.int .i64 m.inputs), (.int .i64 m.outputs), v67] 27, f101] ++ A) ∧ True) ∨ (fl = [true, false, false] ∧ ∃ (f_o113 : Frag), O.Perm ([box b9 [(.int .i64 0), (.int .i64 0), (.slice none 0 0)] 27, box b84 [(.int .i64 m.inputs), (.int .i64 m.outputs), v67] 27, f101, f_o113] ++ A) ∧ ORep kEdge R f_o113 (es.getD 0 undef) y111 ∧ True) ∨ (fl = [true, true, false] ∧ ∃ (f_o116 : Frag), O.Perm ([box b9 [(.int .i64 0), (.int .i64 0), (.slice none 0 0)] 27, box b84 [(.int .i64 m.inputs), (.int .i64 m.outputs), v67] 27, f101, f_o116] ++ A) ∧ ORep kEdge R f_o116 (es.getD 1 undef) y114 ∧ capOf (es.getD 1 undef) = y114.length ∧ True) ∨ (fl = [true, true, true] ∧ ∃ (f_o56 : Frag), O.Perm ([box b9 [(.int .i64 0), (.int .i64 0), (.slice none 0 0)] 27, box b84 [(.int .i64 m.inputs), (.int .i64 m.outputs), v67] 27, f_o56] ++ A) ∧ N2 true kEdge R f_o56 v67 (V103.set x97.toNat (es.getD 1 undef)) (up x98 x97 y114) ∧ True)) mixed (by kernel_rfl) ⟨(monoE_of mono_x), (monoE_of mono_x), (monoE_of mono_x), (monoE_of mono_x), (fun _ _ _ _ _ h => h), (fun _ _ _ _ _ h => h), (monoE_of (fun _ _ _ _ h => h)), (fun _ _ _ _ _ h => h), trivial⟩ (by
              rintro fl es R R' O hle (⟨rfl, hp, _⟩ | ⟨rfl, f_o113, hp, h_o113, _⟩ | ⟨rfl, f_o116, hp, h_o116, c_o116, _⟩ | ⟨rfl, f_o56, hp, h_o56, _⟩)
              · exact (.inl ⟨rfl, hp, trivial⟩)
              · exact (.inr (.inl ⟨rfl, f_o113, hp, (h_o113.mono hle), trivial⟩))
              · exact (.inr (.inr (.inl ⟨rfl, f_o116, hp, (h_o116.mono hle), c_o116, trivial⟩)))
              · exact (.inr (.inr (.inr ⟨rfl, f_o56, hp, (h_o56.mono hle), trivial⟩)))) ⟨(fun _ _ _ _ _ h => h), (fun _ _ _ _ _ h => h), (fun _ _ _ _ _ h => h), (fun _ _ _ _ _ h => h), (fun _ _ _ _ _ h => h), (fun _ _ _ _ _ h => h), (fun _ _ _ _ _ h => h), (fun _ _ _ _ _ h => h), trivial⟩ (fun es => .inl ⟨rfl, (List.Perm.refl _), trivial⟩) ⟨?_, ?_, ?_, ?_, ?_, ?_, ?_, ?_, trivial⟩ fun R118 le119 => ?_
          · intro l R0q fl O hle ha hd hk hW
            have a11 : l 11 = (.pointer (some ⟨b84, 0, none⟩)) := ha 11 rfl
            exact ph_val (val_fieldB fd27_2 a11)
          · intro l R1q fl O hle ha hd hk hW
            obtain ⟨d0, _⟩ := hd
            have f53 : l 53 = (.pointer (some ⟨b84, 2, none⟩)) := d0 rfl
            rcases hW with ⟨rfl, hp, _⟩ | ⟨rfl, f_o113, hp, h_o113, _⟩ | ⟨rfl, f_o116, hp, h_o116, c_o116, _⟩ | ⟨rfl, f_o56, hp, h_o56, _⟩
            · exact eff_permP hp (ph_val (val_loadB (i := 1) ag25 f53 rfl rfl))
            · exact eff_permP hp (ph_val (val_loadB (i := 1) ag25 f53 rfl rfl))
            · exact eff_permP hp (ph_val (val_loadB (i := 1) ag25 f53 rfl rfl))
            · exact kn_no hk (by kernel_rfl)
          · intro l R2q fl O hle ha hd hk hW
            have a12 : l 12 = (.int .i64 x97) := ha 12 rfl
            exact ph_val (val_move a12)
          · intro l R3q fl O hle ha hd hk hW
            have a13 : l 13 = v109 := ha 13 rfl
            exact ph_val (val_move a13)
          · intro l R4q fl O hle ha hd hk hf hW
            obtain ⟨d0, _⟩ := hd
            have f56 : l 56 = v109 := d0 rfl
            rcases hW with ⟨rfl, hp, _⟩ | ⟨rfl, f_o113, hp, h_o113, _⟩ | ⟨rfl, f_o116, hp, h_o116, c_o116, _⟩ | ⟨rfl, f_o56, hp, h_o56, _⟩
            · refine eff_perm hp ?_
              refine eff_perm (O1 := [] ++ ([box b9 [(.int .i64 0), (.int .i64 0), (.slice none 0 0)] 27, box b84 [(.int .i64 m.inputs), (.int .i64 m.outputs), v67] 27, f101] ++ A)) (List.Perm.refl _) ?_
              refine Eff.mono (eff_callO (cs := []) (vs := [v109]) en53 rfl (by simp only [List.map, ev, f56] <;> rfl) (c_slices_Clone_api_Edge_o (h110.mono hle) c112)) ?_
              rintro v R' O' hle' ⟨_, rfl, u_, f_o113, rfl, rfl, h_o113⟩
              exact ⟨(orep_one h_o113), .inr (.inl ⟨rfl, f_o113, (pk 1 rfl (pk 1 rfl (pk 1 rfl (pk 0 rfl (List.Perm.refl _))))), h_o113, trivial⟩)⟩
            · cases hf
            · cases hf
            · cases hf
          · intro l R5q fl O hle ha hd hk hf hW
            obtain ⟨d0, d1, _⟩ := hd
            have f57 : (l 57).oneCell' = true := d0 rfl
            rcases hW with ⟨rfl, hp, _⟩ | ⟨rfl, f_o113, hp, h_o113, _⟩ | ⟨rfl, f_o116, hp, h_o116, c_o116, _⟩ | ⟨rfl, f_o56, hp, h_o56, _⟩
            · exact kn_no hk (by kernel_rfl)
            · refine eff_perm hp ?_
              refine eff_perm (O1 := [f_o113] ++ ([box b9 [(.int .i64 0), (.int .i64 0), (.slice none 0 0)] 27, box b84 [(.int .i64 m.inputs), (.int .i64 m.outputs), v67] 27, f101] ++ A)) (pk 3 rfl (pk 0 rfl (pk 0 rfl (pk 0 rfl (List.Perm.refl _))))) ?_
              refine Eff.mono (eff_callO (cs := []) (vs := [(l 57)]) en52 rfl rfl (c_slices_Clip_api_Edge_o h_o113 c115)) ?_
              rintro v R' O' hle' ⟨_, rfl, u_, f_o116, rfl, rfl, h_o116, c_o116⟩
              exact ⟨(orep_one h_o116), .inr (.inr (.inl ⟨rfl, f_o116, (pk 1 rfl (pk 1 rfl (pk 1 rfl (pk 0 rfl (List.Perm.refl _))))), h_o116, c_o116, trivial⟩))⟩
            · cases hf
            · cases hf
          · intro l R6q fl O hle ha hd hk hW
            obtain ⟨d0, d1, d2, d3, d4, d5, d6, d7, _⟩ := hd
            have f54 : l 54 = v67 := d0 rfl
            have f55 : l 55 = (.int .i64 x97) := d1 rfl
            exact ph_indexN (i := x97.toNat) (sl_hdr (b := true) sl25) f54 (h102.mono hle) (idx_nonneg f55 g117.1) (okI_lt g117)
          · intro l R7q fl O hle ha hd hk hf hW
            obtain ⟨d0, d1, d2, d3, d4, d5, d6, d7, d8, _⟩ := hd
            have f59 : (fun u _ => OPtr tHdr v67 V103 u x97.toNat) (l 59) R7q := d0 rfl
            have f58 : (l 58).oneCell' = true := d1 rfl
            rcases hW with ⟨rfl, hp, _⟩ | ⟨rfl, f_o113, hp, h_o113, _⟩ | ⟨rfl, f_o116, hp, h_o116, c_o116, _⟩ | ⟨rfl, f_o56, hp, h_o56, _⟩
            · exact kn_no hk (by kernel_rfl)
            · exact kn_no hk (by kernel_rfl)
            · refine eff_perm hp ?_
              refine eff_perm (O1 := [f101, f_o116] ++ ([box b9 [(.int .i64 0), (.int .i64 0), (.slice none 0 0)] 27, box b84 [(.int .i64 m.inputs), (.int .i64 m.outputs), v67] 27] ++ A)) (pk 2 rfl (pk 2 rfl (pk 0 rfl (pk 0 rfl (List.Perm.refl _))))) ?_
              refine Eff.mono (eff_setN (r := x97.toNat) (ty_hdr (b := true) ty41) (h102.mono hle) (okI_lt g117) rfl f59 rfl h_o116 (fun _ => c_o116)) ?_
              rintro v R' O' hle' ⟨_, rfl, rfl, f, rfl, h⟩
              exact ⟨trivial, .inr (.inr (.inr ⟨rfl, f, (pk 1 rfl (pk 1 rfl (pk 0 rfl (List.Perm.refl _)))), h, trivial⟩))⟩
            · cases hf
          intro v120
          intro v121
          intro v122
          intro v123
          intro v124
          intro v125
          intro v126
          intro h127
          intro h128
          intro h129
          intro h130
          intro h131
          intro h132
          intro h133
          rintro OO134 (⟨e, _⟩ | ⟨e, _⟩ | ⟨e, _⟩ | ⟨_, f135, hp, h136, _⟩)
          · cases e
          · cases e
          · cases e
          refine ⟨[], _, hp, ?_⟩
          obtain rfl := Eq.symm h127
          obtain rfl := Eq.symm h128
          obtain rfl := Eq.symm h129
          obtain rfl := Eq.symm h130
          refine wo_nil ?_
          refine wg_region ?_
          have g138 := (gd_some hd1).1; replace hd1 := (gd_some hd1).2
          refine wo_v rfl (val_add rfl rfl g138) ?_
          refine wo_v rfl (val_move (v := (.int .i64 (x97 + 1))) rfl) ?_
          refine wo_nil ?_
          exact ⟨(fun _ => rfl), le119, (by repeat (first | exact off_self | refine off_upd rfl ?_ | refine off_setl rfl ?_ | refine off_mask_sub rfl ?_)), (F96, x97 + 1, (up x98 x97 y114), f135), Nat.lt_succ_self _, ⟨rfl, trivial⟩, ⟨[], List.Perm.refl _⟩, hd1, (nrep_of h136), (ht104.trans List.length_set.symm), trivial⟩
        · replace hd1 := sel_f e105 hd1; clear e105
          refine wg_exit ?_
          exact ⟨(fun _ => rfl), le100, (by repeat (first | exact off_self | refine off_upd rfl ?_ | refine off_setl rfl ?_ | refine off_mask_sub rfl ?_)), (x98, f101), trivial, ⟨[], List.Perm.refl _⟩, (Option.some.inj hd1).symm, (nrep_of h102), ht104, trivial⟩
      ·
        rintro ⟨o85, f88⟩ j142 D143 R86 hD144 le87 ⟨rfl, ⟨V90, h89⟩, ht91, _⟩
        obtain rfl := hD144 rfl
        refine wg_seq ?_
        have g145 := (gd_some hd0).1; replace hd0 := (gd_some hd0).2
        have g146 := (gd_some hd0).1; replace hd0 := (gd_some hd0).2
        refine wg_drawn 8 [] [phX (.pointer (some ⟨b84, 2, none⟩)), phX v67, phX (.int .i64 s), (fun u _ => OPtr tHdr v67 V90 u s.toNat), phX (V90.getD s.toNat default), phX (.int .i64 i), phX (enc_Edge x), (fun u _ => OPtr kEdge (V90.getD s.toNat default) (o85.getD s.toNat default) u i.toNat)] mixed (by kernel_rfl) (monoOk_of ⟨mono_x, mono_x, mono_x, (fun _ _ _ _ h => h), mono_x, mono_x, mono_x, (fun _ _ _ _ h => h), trivial⟩) ⟨?_, ?_, ?_, ?_, ?_, ?_, ?_, ?_, trivial⟩ fun R147 le148 => ?_
        · intro l R0q hle ha hd
          have a11 : l 11 = (.pointer (some ⟨b84, 0, none⟩)) := ha 11 rfl
          exact gstep_plain rfl rfl rfl (ph_val (val_fieldB fd27_2 a11))
        · intro l R1q hle ha hd
          obtain ⟨d0, _⟩ := hd
          have f61 : l 61 = (.pointer (some ⟨b84, 2, none⟩)) := d0 rfl
          exact gstep_plain rfl rfl rfl (ph_val (val_loadB (i := 1) ag25 f61 rfl rfl))
        · intro l R2q hle ha hd
          have a1 : l 1 = (.int .i64 s) := ha 1 rfl
          exact gstep_plain rfl rfl rfl (ph_val (val_move a1))
        · intro l R3q hle ha hd
          obtain ⟨d0, d1, _⟩ := hd
          have f62 : l 62 = v67 := d0 rfl
          have f63 : l 63 = (.int .i64 s) := d1 rfl
          exact gstep_plain rfl rfl rfl (ph_indexN (i := s.toNat) (sl_hdr (b := true) sl25) f62 (h89.mono hle) (idx_nonneg f63 g145.1) (okI_lt g145))
        · intro l R4q hle ha hd
          obtain ⟨d0, _⟩ := hd
          have f64 : (fun u _ => OPtr tHdr v67 V90 u s.toNat) (l 64) R4q := d0 rfl
          exact gstep_plain rfl rfl rfl (ph_loadN (i := s.toNat) (j := 2) (ty_hdr (b := true) ty41) (h89.mono hle) rfl rfl f64 (okI_lt g145))
        · intro l R5q hle ha hd
          have a2 : l 2 = (.int .i64 i) := ha 2 rfl
          exact gstep_plain rfl rfl rfl (ph_val (val_move a2))
        · intro l R6q hle ha hd
          have a7 : l 7 = v5 := ha 7 rfl
          exact gstep_plain rfl rfl rfl (ph_exact (ph_loadR ty40 a7 ((h6.mono (((le18.trans le24).trans le59).trans le87)).mono hle)) (fun _ _ h => vrep_Edge.1 h))
        · intro l R7q hle ha hd
          obtain ⟨d0, d1, d2, d3, d4, d5, d6, d7, d8, _⟩ := hd
          have f65 : l 65 = (V90.getD s.toNat default) := d0 rfl
          have f66 : l 66 = (.int .i64 i) := d1 rfl
          exact gstep_plain rfl rfl rfl (ph_indexNR (i := i.toNat) (r := s.toNat) sl41 (h89.mono hle) (okI_lt g145) f65 (idx_nonneg f66 g146.1) (okI_lt g146))
        intro v149 h150
        intro v151 h152
        intro v153 h154
        intro v155 h156
        intro v157 h158
        intro v159 h160
        intro v161 h162
        intro v163 h164
        obtain rfl := Eq.symm h150
        obtain rfl := Eq.symm h152
        obtain rfl := Eq.symm h154
        obtain rfl := Eq.symm h158
        obtain rfl := Eq.symm h160
        obtain rfl := Eq.symm h162
        refine wo_turn0 (Oc := [f88]) (Or := [box b9 [(.int .i64 0), (.int .i64 0), (.slice none 0 0)] 27, box b84 [(.int .i64 m.inputs), (.int .i64 m.outputs), v67] 27] ++ A) (pk 2 rfl (pk 0 rfl (pk 0 rfl (List.Perm.refl _)))) (eff_storeN (i := i.toNat) (r := s.toNat) ty40 (h89.mono le148) (okI_lt g145) rfl h164 (okI_lt g146) rfl (vrep_Edge.2 rfl)) ?_
        rintro v167 R170 Oc169 le171 ⟨rfl, f165, rfl, h166⟩
        replace h166 : N2 true kEdge _ f165 v67 V90 (up o85 s (up (ix o85 s) i x)) := h166
        refine wo_nil ?_
        refine wg_seq ?_
        refine wg_region ?_
        refine wo_v rfl (val_loadBA (i := 2) ag27 sz27 rfl rfl rfl rfl) ?_
        refine wo_store (i := 1) (vs := [(.int .i64 m.inputs), (.int .i64 m.outputs), v67]) sz27 rfl rfl rfl rfl rfl rfl (one_cons rfl (one_cons rfl (one_cons (n2_one h166) one_nil))) ?_
        refine wo_v rfl (val_assign (v := (.int .i64 0)) rfl) ?_
        refine wo_nil ?_
        refine wg_ret ?_
        obtain rfl := Option.some.inj hd0
        refine body_endG (D := []) (J := [box b9 [(.int .i64 m.inputs), (.int .i64 m.outputs), v67] 27, box b84 [(.int .i64 m.inputs), (.int .i64 m.outputs), v67] 27]) (O' := [f165]) (rs := [.cell 8 27, .tmp 9]) (vs := [(.agg #[(.int .i64 m.inputs), (.int .i64 m.outputs), v67]), (.int .i64 0)]) ((((((le4.trans le8).trans le18).trans le24).trans le59).trans le87).trans le148) ((pk 1 rfl (pk 1 rfl (pk 0 rfl (List.Perm.refl _))))) rfl ⟨⟨_, rfl, fun w hh => run_cellA (i := 1) hh rfl rfl ag27 sz27 rfl rfl⟩, rfl, trivial⟩ ?_
        exact ⟨v67, f165, rfl, rfl, (nrep_of h166), (ht91.trans List.length_set.symm)⟩
theorem c_gauntletlaw04_MachinesWith {N : Nat} {R : RH} {x : MDat} {v_x : Value} (h_x : VRep (kMDat false) R v_x x) {place : (Int × Int)} {to_ : Edge} {r : Bool} (hd0 : gauntletlaw04_MachinesWith N x place to_ = some r) : CallP Try.prog 7 #[v_x, (enc_A2tIntu8 place), (enc_Edge to_)] R (fun v R' => v = (.bool r)) := by
  refine callP_of_wg (args := [v_x, (enc_A2tIntu8 place), (enc_Edge to_)]) Try.func7 rfl rfl fun A => ?_
  rw [gauntletlaw04_MachinesWith] at hd0
  refine wg_seq ?_
  refine wg_region ?_
  refine wo_boxR (T := (kMDat false)) rfl rfl h_x fun v1 R3 le4 h2 => ?_
  refine wo_boxR (T := kA2tIntu8) rfl rfl (vrep_A2tIntu8.2 rfl) fun v5 R7 le8 h6 => ?_
  refine wo_boxR (T := kEdge) rfl rfl (vrep_Edge.2 rfl) fun v9 R11 le12 h10 => ?_
  refine wo_v rfl (val_assign (v := (.bool false)) rfl) ?_
  refine wo_nil ?_
  refine wg_seq ?_
  refine wg_region ?_
  refine wo_loadR rfl ty24 rfl (h2.mono (le8.trans le12)) fun v13 h14 => ?_
  replace hd0 := bd_some hd0; obtain ⟨y15, c16, hd0⟩ := hd0
  refine wo_callP rfl en10 rfl (c_gauntletlaw04_M_Of h14 c16) fun v17 R19 le20 h18 => ?_
  refine wo_alloc rfl za27 fun b21 => ?_
  obtain ⟨v23, rfl, h24⟩ := cases_Mach h18
  refine wo_store (i := 0) (vs := [(.int .i64 y15.inputs), (.int .i64 y15.outputs), v23]) sz27 rfl rfl rfl rfl rfl rfl (one_cons rfl (one_cons rfl (one_cons (sl_one h24) one_nil))) ?_
  refine wo_nil ?_
  refine wg_seq ?_
  refine wg_region ?_
  refine wo_v rfl (val_loadBA (i := 0) ag27 sz27 rfl rfl rfl rfl) ?_
  replace hd0 := bd_some hd0; obtain ⟨y25, c26, hd0⟩ := hd0
  refine wo_callP rfl en35 rfl (c_gauntletref04_Copy (⟨_, ⟨_, _, rfl, rfl, ⟨_, _, rfl, rfl, (rep_one rfl h24)⟩⟩, rfl⟩ : VRep (kMach false false) _ _ (⟨y15.inputs, y15.outputs, y15.rows⟩ : Mach)) c26) fun v27 R29 le30 h28 => ?_
  refine wo_alloc rfl za27 fun b31 => ?_
  obtain ⟨v33, rfl, h34⟩ := cases_Mach h28
  refine wo_store (i := 0) (vs := [(.int .i64 y25.inputs), (.int .i64 y25.outputs), v33]) sz27 rfl rfl rfl rfl rfl rfl (one_cons rfl (one_cons rfl (one_cons (sl_one h34) one_nil))) ?_
  refine wo_nil ?_
  refine wg_seq ?_
  have g35 := (gd_some hd0).1; replace hd0 := (gd_some hd0).2
  have g36 := (gd_some hd0).1; replace hd0 := (gd_some hd0).2
  have g37 := (gd_some hd0).1; replace hd0 := (gd_some hd0).2
  have g38 := (gd_some hd0).1; replace hd0 := (gd_some hd0).2
  refine wg_drawn 15 [] [phP (tInt .u8) place.1, phX (.int .u8 place.1), phX (.int .i64 place.1), phX (.pointer (some ⟨b21, 2, none⟩)), phX v23, phX (.int .i64 (↑y15.rows.length : Int)), phX (.int .i64 (place.1 % (↑y15.rows.length : Int))), phP (tInt .u8) place.2, phX (.int .u8 place.2), phX (.int .i64 place.2), phX (.pointer (some ⟨b21, 0, none⟩)), phX (.int .i64 y15.inputs), phX (.int .i64 (place.2 % y15.inputs)), phX (.int .i64 (place.1 % (↑y15.rows.length : Int))), phX (.int .i64 (place.2 % y15.inputs))] mixed (by kernel_rfl) (monoOk_of ⟨mono_p, mono_x, mono_x, mono_x, mono_x, mono_x, mono_x, mono_p, mono_x, mono_x, mono_x, mono_x, mono_x, mono_x, mono_x, trivial⟩) ⟨?_, ?_, ?_, ?_, ?_, ?_, ?_, ?_, ?_, ?_, ?_, ?_, ?_, ?_, ?_, trivial⟩ fun R39 le40 => ?_
  · intro l R0q hle ha hd
    have a4 : l 4 = v5 := ha 4 rfl
    exact gstep_plain rfl rfl rfl (ph_indexAR (i := 0) ar70 pt_A2tIntu80 a4 ((h6.mono ((le12.trans le20).trans le30)).mono hle) rfl (by decide))
  · intro l R1q hle ha hd
    obtain ⟨d0, _⟩ := hd
    have f19 : phP (tInt .u8) place.1 (l 19) R1q := d0 rfl
    exact gstep_plain rfl rfl rfl (ph_exact (ph_loadR ty5 rfl f19) (fun _ _ h => vrep_int.1 h))
  · intro l R2q hle ha hd
    obtain ⟨d0, _⟩ := hd
    have f20 : l 20 = (.int .u8 place.1) := d0 rfl
    exact gstep_plain rfl rfl rfl (ph_val (val_conv64 Try.underlying5 Try.underlying3 f20 g35))
  · intro l R3q hle ha hd
    have a7 : l 7 = (.pointer (some ⟨b21, 0, none⟩)) := ha 7 rfl
    exact gstep_plain rfl rfl rfl (ph_val (val_fieldB fd27_2 a7))
  · intro l R4q hle ha hd
    obtain ⟨d0, _⟩ := hd
    have f22 : l 22 = (.pointer (some ⟨b21, 2, none⟩)) := d0 rfl
    exact gstep_plain rfl rfl rfl (ph_val (val_loadB (i := 1) ag25 f22 rfl rfl))
  · intro l R5q hle ha hd
    obtain ⟨d0, _⟩ := hd
    have f23 : l 23 = v23 := d0 rfl
    exact gstep_plain rfl rfl rfl (ph_val (val_lenR rfl Try.underlying25 f23 (sl_s ((h24.mono le30).mono hle))))
  · intro l R6q hle ha hd
    obtain ⟨d0, d1, _⟩ := hd
    have f21 : l 21 = (.int .i64 place.1) := d0 rfl
    have f24 : l 24 = (.int .i64 (↑y15.rows.length : Int)) := d1 rfl
    exact gstep_plain rfl rfl rfl (ph_val (val_rem0 f21 f24 g36))
  · intro l R7q hle ha hd
    obtain ⟨d0, _⟩ := hd
    have a4 : l 4 = v5 := ha 4 rfl
    exact gstep_plain rfl rfl rfl (ph_indexAR (i := 1) ar70 pt_A2tIntu81 a4 ((h6.mono ((le12.trans le20).trans le30)).mono hle) rfl (by decide))
  · intro l R8q hle ha hd
    obtain ⟨d0, d1, _⟩ := hd
    have f26 : phP (tInt .u8) place.2 (l 26) R8q := d0 rfl
    exact gstep_plain rfl rfl rfl (ph_exact (ph_loadR ty5 rfl f26) (fun _ _ h => vrep_int.1 h))
  · intro l R9q hle ha hd
    obtain ⟨d0, d1, _⟩ := hd
    have f27 : l 27 = (.int .u8 place.2) := d0 rfl
    exact gstep_plain rfl rfl rfl (ph_val (val_conv64 Try.underlying5 Try.underlying3 f27 g37))
  · intro l R10q hle ha hd
    obtain ⟨d0, _⟩ := hd
    have a7 : l 7 = (.pointer (some ⟨b21, 0, none⟩)) := ha 7 rfl
    exact gstep_plain rfl rfl rfl (ph_val (val_fieldB fd27_0 a7))
  · intro l R11q hle ha hd
    obtain ⟨d0, d1, _⟩ := hd
    have f29 : l 29 = (.pointer (some ⟨b21, 0, none⟩)) := d0 rfl
    exact gstep_plain rfl rfl rfl (ph_val (val_loadB (i := 1) ag3 f29 rfl rfl))
  · intro l R12q hle ha hd
    obtain ⟨d0, d1, d2, _⟩ := hd
    have f28 : l 28 = (.int .i64 place.2) := d0 rfl
    have f30 : l 30 = (.int .i64 y15.inputs) := d1 rfl
    exact gstep_plain rfl rfl rfl (ph_val (val_rem0 f28 f30 g38))
  · intro l R13q hle ha hd
    obtain ⟨d0, d1, d2, d3, d4, d5, d6, d7, d8, d9, d10, d11, d12, d13, _⟩ := hd
    have f25 : l 25 = (.int .i64 (place.1 % (↑y15.rows.length : Int))) := d0 rfl
    exact gstep_plain rfl rfl rfl (ph_val (val_assign f25))
  · intro l R14q hle ha hd
    obtain ⟨d0, d1, d2, d3, d4, d5, d6, d7, d8, d9, d10, d11, d12, d13, d14, d15, _⟩ := hd
    have f31 : l 31 = (.int .i64 (place.2 % y15.inputs)) := d0 rfl
    exact gstep_plain rfl rfl rfl (ph_val (val_assign f31))
  intro v41 h42
  intro v43 h44
  intro v45 h46
  intro v47 h48
  intro v49 h50
  intro v51 h52
  intro v53 h54
  intro v55 h56
  intro v57 h58
  intro v59 h60
  intro v61 h62
  intro v63 h64
  intro v65 h66
  intro v67 h68
  intro v69 h70
  obtain rfl := Eq.symm h44
  obtain rfl := Eq.symm h46
  obtain rfl := Eq.symm h48
  obtain rfl := Eq.symm h50
  obtain rfl := Eq.symm h52
  obtain rfl := Eq.symm h54
  obtain rfl := Eq.symm h58
  obtain rfl := Eq.symm h60
  obtain rfl := Eq.symm h62
  obtain rfl := Eq.symm h64
  obtain rfl := Eq.symm h66
  obtain rfl := Eq.symm h68
  obtain rfl := Eq.symm h70
  refine wo_nil ?_
  refine wg_seq ?_
  refine wg_region ?_
  refine wo_v rfl (val_loadBA (i := 1) ag27 sz27 rfl rfl rfl rfl) ?_
  refine wo_v rfl (val_move (v := (.int .i64 (place.1 % (↑y15.rows.length : Int)))) rfl) ?_
  refine wo_v rfl (val_move (v := (.int .i64 (place.2 % y15.inputs))) rfl) ?_
  refine wo_loadR rfl ty40 rfl (h10.mono ((le20.trans le30).trans le40)) fun v71 h72 => ?_
  obtain rfl := vrep_Edge.1 h72
  replace hd0 := bd_some hd0; obtain ⟨y73, c74, hd0⟩ := hd0
  refine wo_callO (Oc := []) (Or := [box b31 [(.int .i64 y25.inputs), (.int .i64 y25.outputs), v33] 27, box b21 [(.int .i64 y15.inputs), (.int .i64 y15.outputs), v23] 27] ++ A) (cs := []) (vs := [(.agg #[(.int .i64 y15.inputs), (.int .i64 y15.outputs), v23]), (.int .i64 (place.1 % (↑y15.rows.length : Int))), (.int .i64 (place.2 % y15.inputs)), (enc_Edge to_)]) rfl en33 rfl rfl ((pk 0 rfl (pk 0 rfl (List.Perm.refl _)))) (c_machines_With_o (⟨_, ⟨_, _, rfl, rfl, ⟨_, _, rfl, rfl, (rep_one rfl (h24.mono (le30.trans le40)))⟩⟩, rfl⟩ : VRep (kMach false false) _ _ (⟨y15.inputs, y15.outputs, y15.rows⟩ : Mach)) c74) fun v75 R78 Oc77 le79 h76 => ?_
  obtain ⟨v80, f81, rfl, rfl, ⟨V83, h82⟩, cap84⟩ := h76
  refine wo_v rfl (val_move (v := (.tuple #[(.agg #[(.int .i64 y73.1.inputs), (.int .i64 y73.1.outputs), v80]), (.int .i64 y73.2)])) rfl) ?_
  refine wo_v rfl (val_extract rfl rfl) ?_
  refine wo_v rfl (val_extract rfl rfl) ?_
  refine wo_alloc rfl za27 fun b86 => ?_
  refine wo_store (i := 0) (vs := [(.int .i64 y73.1.inputs), (.int .i64 y73.1.outputs), v80]) sz27 rfl rfl rfl rfl rfl rfl (one_cons rfl (one_cons rfl (one_cons (n2_one h82) one_nil))) ?_
  refine wo_v rfl (val_assign (v := (.int .i64 y73.2)) rfl) ?_
  refine wo_nil ?_
  refine wg_seq ?_
  refine wg_region ?_
  refine wo_v rfl (val_loadBA (i := 3) ag27 sz27 rfl rfl rfl rfl) ?_
  replace hd0 := bd_some hd0; obtain ⟨y88, c89, hd0⟩ := hd0
  refine wo_callO (Oc := []) (Or := [box b86 [(.int .i64 y73.1.inputs), (.int .i64 y73.1.outputs), v80] 27, f81, box b31 [(.int .i64 y25.inputs), (.int .i64 y25.outputs), v33] 27, box b21 [(.int .i64 y15.inputs), (.int .i64 y15.outputs), v23] 27] ++ A) (cs := []) (vs := [(.agg #[(.int .i64 y15.inputs), (.int .i64 y15.outputs), v23])]) rfl en35 rfl rfl ((pk 0 rfl (pk 0 rfl (pk 0 rfl (pk 0 rfl (List.Perm.refl _)))))) (c_gauntletref04_Copy_o (⟨_, ⟨_, _, rfl, rfl, ⟨_, _, rfl, rfl, (rep_one rfl (h24.mono ((le30.trans le40).trans le79)))⟩⟩, rfl⟩ : VRep (kMach false false) _ _ (⟨y15.inputs, y15.outputs, y15.rows⟩ : Mach)) c89) fun v90 R93 Oc92 le94 h91 => ?_
  obtain ⟨v95, f96, rfl, rfl, ⟨V98, h97⟩⟩ := h91
  refine wo_alloc rfl za27 fun b100 => ?_
  refine wo_store (i := 0) (vs := [(.int .i64 y88.inputs), (.int .i64 y88.outputs), v95]) sz27 rfl rfl rfl rfl rfl rfl (one_cons rfl (one_cons rfl (one_cons (n2_one h97) one_nil))) ?_
  refine wo_nil ?_
  refine wg_seq ?_
  have g102 := (gd_some hd0).1; replace hd0 := (gd_some hd0).2
  have g103 := (gd_some hd0).1; replace hd0 := (gd_some hd0).2
  refine wg_drawn 8 [] [phX (.pointer (some ⟨b100, 2, none⟩)), phX v95, phX (.int .i64 (place.1 % (↑y15.rows.length : Int))), (fun u _ => OPtr tHdr v95 V98 u (place.1 % (↑y15.rows.length : Int)).toNat), phX (V98.getD (place.1 % (↑y15.rows.length : Int)).toNat default), phX (.int .i64 (place.2 % y15.inputs)), phX (enc_Edge to_), (fun u _ => OPtr kEdge (V98.getD (place.1 % (↑y15.rows.length : Int)).toNat default) (y88.rows.getD (place.1 % (↑y15.rows.length : Int)).toNat default) u (place.2 % y15.inputs).toNat)] mixed (by kernel_rfl) (monoOk_of ⟨mono_x, mono_x, mono_x, (fun _ _ _ _ h => h), mono_x, mono_x, mono_x, (fun _ _ _ _ h => h), trivial⟩) ⟨?_, ?_, ?_, ?_, ?_, ?_, ?_, ?_, trivial⟩ fun R104 le105 => ?_
  · intro l R0q hle ha hd
    have a13 : l 13 = (.pointer (some ⟨b100, 0, none⟩)) := ha 13 rfl
    exact gstep_plain rfl rfl rfl (ph_val (val_fieldB fd27_2 a13))
  · intro l R1q hle ha hd
    obtain ⟨d0, _⟩ := hd
    have f42 : l 42 = (.pointer (some ⟨b100, 2, none⟩)) := d0 rfl
    exact gstep_plain rfl rfl rfl (ph_val (val_loadB (i := 0) ag25 f42 rfl rfl))
  · intro l R2q hle ha hd
    have a9 : l 9 = (.int .i64 (place.1 % (↑y15.rows.length : Int))) := ha 9 rfl
    exact gstep_plain rfl rfl rfl (ph_val (val_move a9))
  · intro l R3q hle ha hd
    obtain ⟨d0, d1, _⟩ := hd
    have f43 : l 43 = v95 := d0 rfl
    have f44 : l 44 = (.int .i64 (place.1 % (↑y15.rows.length : Int))) := d1 rfl
    exact gstep_plain rfl rfl rfl (ph_indexN (i := (place.1 % (↑y15.rows.length : Int)).toNat) (sl_hdr (b := true) sl25) f43 (h97.mono hle) (idx_nonneg f44 g102.1) (okI_lt g102))
  · intro l R4q hle ha hd
    obtain ⟨d0, _⟩ := hd
    have f45 : (fun u _ => OPtr tHdr v95 V98 u (place.1 % (↑y15.rows.length : Int)).toNat) (l 45) R4q := d0 rfl
    exact gstep_plain rfl rfl rfl (ph_loadN (i := (place.1 % (↑y15.rows.length : Int)).toNat) (j := 1) (ty_hdr (b := true) ty41) (h97.mono hle) rfl rfl f45 (okI_lt g102))
  · intro l R5q hle ha hd
    have a10 : l 10 = (.int .i64 (place.2 % y15.inputs)) := ha 10 rfl
    exact gstep_plain rfl rfl rfl (ph_val (val_move a10))
  · intro l R6q hle ha hd
    have a5 : l 5 = v9 := ha 5 rfl
    exact gstep_plain rfl rfl rfl (ph_exact (ph_loadR ty40 a5 ((h10.mono ((((le20.trans le30).trans le40).trans le79).trans le94)).mono hle)) (fun _ _ h => vrep_Edge.1 h))
  · intro l R7q hle ha hd
    obtain ⟨d0, d1, d2, d3, d4, d5, d6, d7, d8, _⟩ := hd
    have f46 : l 46 = (V98.getD (place.1 % (↑y15.rows.length : Int)).toNat default) := d0 rfl
    have f47 : l 47 = (.int .i64 (place.2 % y15.inputs)) := d1 rfl
    exact gstep_plain rfl rfl rfl (ph_indexNR (i := (place.2 % y15.inputs).toNat) (r := (place.1 % (↑y15.rows.length : Int)).toNat) sl41 (h97.mono hle) (okI_lt g102) f46 (idx_nonneg f47 g103.1) (okI_lt g103))
  intro v106 h107
  intro v108 h109
  intro v110 h111
  intro v112 h113
  intro v114 h115
  intro v116 h117
  intro v118 h119
  intro v120 h121
  obtain rfl := Eq.symm h107
  obtain rfl := Eq.symm h109
  obtain rfl := Eq.symm h111
  obtain rfl := Eq.symm h115
  obtain rfl := Eq.symm h117
  obtain rfl := Eq.symm h119
  refine wo_turn0 (Oc := [f96]) (Or := [box b100 [(.int .i64 y88.inputs), (.int .i64 y88.outputs), v95] 27, box b86 [(.int .i64 y73.1.inputs), (.int .i64 y73.1.outputs), v80] 27, f81, box b31 [(.int .i64 y25.inputs), (.int .i64 y25.outputs), v33] 27, box b21 [(.int .i64 y15.inputs), (.int .i64 y15.outputs), v23] 27] ++ A) (pk 1 rfl (pk 0 rfl (pk 0 rfl (pk 0 rfl (pk 0 rfl (pk 0 rfl (List.Perm.refl _))))))) (eff_storeN (i := (place.2 % y15.inputs).toNat) (r := (place.1 % (↑y15.rows.length : Int)).toNat) ty40 (h97.mono le105) (okI_lt g102) rfl h121 (okI_lt g103) rfl (vrep_Edge.2 rfl)) ?_
  rintro v124 R127 Oc126 le128 ⟨rfl, f122, rfl, h123⟩
  replace h123 : N2 false kEdge _ f122 v95 V98 (up y88.rows (place.1 % (↑y15.rows.length : Int)) (up (ix y88.rows (place.1 % (↑y15.rows.length : Int))) (place.2 % y15.inputs) to_)) := h123
  refine wo_nil ?_
  refine wg_seq ?_
  refine wg_seq ?_
  replace hd0 := bd_some hd0; obtain ⟨y129, c130, hd0⟩ := hd0
  replace hd0 := bd_some hd0; obtain ⟨y131, c132, hd0⟩ := hd0
  refine wg_guarded 10 [] [phX (.agg #[(.int .i64 y15.inputs), (.int .i64 y15.outputs), v23]), phX (.agg #[(.int .i64 y25.inputs), (.int .i64 y25.outputs), v33]), phX (.bool y129), phX (.bool (!y129)), phX (.bool (!y129)), phG (true && ((!y129) == false)) (phX (.int .i64 y73.2)), phG (true && ((!y129) == false)) (phX (.agg #[(.int .i64 y88.inputs), (.int .i64 y88.outputs), v95])), phG (true && ((!y129) == false)) (phX (.int .i64 (y131.getD default))), phG (true && ((!y129) == false)) (phX (.bool (decide (y73.2 ≠ (y131.getD default))))), phX (.bool ((!y129) || (decide (y73.2 ≠ (y131.getD default)))))] (by kernel_rfl) (by kernel_rfl) (monoOk_of ⟨mono_x, mono_x, mono_x, mono_x, mono_x, (mono_g mono_x), (mono_g mono_x), (mono_g mono_x), (mono_g mono_x), mono_x, trivial⟩) ⟨?_, ?_, ?_, ?_, ?_, ?_, ?_, ?_, ?_, ?_, trivial⟩ fun R133 le134 => ?_
  · intro l R0q hle ha hd
    have a7 : l 7 = (.pointer (some ⟨b21, 0, none⟩)) := ha 7 rfl
    exact gstep_plain rfl rfl rfl (ph_val (val_loadBA (i := 5) ag27 sz27 a7 rfl rfl rfl))
  · intro l R1q hle ha hd
    have a8 : l 8 = (.pointer (some ⟨b31, 0, none⟩)) := ha 8 rfl
    exact gstep_plain rfl rfl rfl (ph_val (val_loadBA (i := 4) ag27 sz27 a8 rfl rfl rfl))
  · intro l R2q hle ha hd
    obtain ⟨d0, d1, _⟩ := hd
    have f50 : l 50 = (.agg #[(.int .i64 y15.inputs), (.int .i64 y15.outputs), v23]) := d0 rfl
    have f51 : l 51 = (.agg #[(.int .i64 y25.inputs), (.int .i64 y25.outputs), v33]) := d1 rfl
    exact gstep_plain rfl rfl rfl (ph_callP (vs := [(.agg #[(.int .i64 y15.inputs), (.int .i64 y15.outputs), v23]), (.agg #[(.int .i64 y25.inputs), (.int .i64 y25.outputs), v33])]) en36 (by simp only [List.map, ev, f50, f51] <;> rfl) (c_gauntletref04_Same (⟨_, ⟨_, _, rfl, rfl, ⟨_, _, rfl, rfl, (rep_one rfl ((h24.mono ((((le30.trans le40).trans le79).trans le94).trans le105)).mono hle))⟩⟩, rfl⟩ : VRep (kMach false false) _ _ (⟨y15.inputs, y15.outputs, y15.rows⟩ : Mach)) (⟨_, ⟨_, _, rfl, rfl, ⟨_, _, rfl, rfl, (rep_one rfl ((h34.mono (((le40.trans le79).trans le94).trans le105)).mono hle))⟩⟩, rfl⟩ : VRep (kMach false false) _ _ (⟨y25.inputs, y25.outputs, y25.rows⟩ : Mach)) c130) (fun _ _ h => h))
  · intro l R3q hle ha hd
    obtain ⟨d0, _⟩ := hd
    have f52 : l 52 = (.bool y129) := d0 rfl
    exact gstep_plain rfl rfl rfl (ph_val (val_not f52))
  · intro l R4q hle ha hd
    obtain ⟨d0, d1, _⟩ := hd
    have f53 : l 53 = (.bool (!y129)) := d0 rfl
    exact gstep_plain rfl rfl rfl (ph_val (val_move f53))
  · intro l R5q hle ha hd
    obtain ⟨d0, _⟩ := hd
    have a12 : l 12 = (.int .i64 y73.2) := ha 12 rfl
    exact gstep_guard (Gj := true) (Bj := !y129) rfl rfl rfl (gtrue (d0 rfl)) rfl (fun hG hB => ph_val (val_move a12))
  · intro l R6q hle ha hd
    obtain ⟨d0, _⟩ := hd
    have a13 : l 13 = (.pointer (some ⟨b100, 0, none⟩)) := ha 13 rfl
    exact gstep_guard (Gj := true) (Bj := !y129) rfl rfl rfl (gtrue (d0 rfl)) rfl (fun hG hB => ph_val (val_loadBA (i := 1) ag27 sz27 a13 rfl rfl rfl))
  · intro l R7q hle ha hd
    obtain ⟨d0, d1, d2, _⟩ := hd
    have f56g : phG (true && ((!y129) == false)) (phX (.agg #[(.int .i64 y88.inputs), (.int .i64 y88.outputs), v95])) (l 56) R7q := d0 rfl
    exact gstep_guard (Gj := true) (Bj := !y129) rfl rfl rfl (gtrue (d1 rfl)) rfl (fun hG hB => ph_lend (cs := []) (vs := [(.agg #[(.int .i64 y88.inputs), (.int .i64 y88.outputs), v95])]) (φ := fun v => v = (.int .i64 (y131.getD default))) en30 rfl (by simp only [List.map, ev, (show l 56 = (.agg #[(.int .i64 y88.inputs), (.int .i64 y88.outputs), v95]) from f56g.1 (gandT rfl hB))] <;> rfl) (fun R1q l1q llq => (by have z := (gop_def c132 (gandT hG hB)); exact c_gauntletref04_Check (⟨_, ⟨_, _, rfl, rfl, ⟨_, _, rfl, rfl, (rep_one rfl (sl_f ((lent_n 0 rfl ((nrep_of h123).mono hle) l1q llq) : VRep (tSlice (tSl false kEdge)) R1q v95 (up y88.rows (place.1 % (↑y15.rows.length : Int)) (up (ix y88.rows (place.1 % (↑y15.rows.length : Int))) (place.2 % y15.inputs) to_)))))⟩⟩, rfl⟩ : VRep (kMach false false) _ _ (⟨y88.inputs, y88.outputs, (up y88.rows (place.1 % (↑y15.rows.length : Int)) (up (ix y88.rows (place.1 % (↑y15.rows.length : Int))) (place.2 % y15.inputs) to_))⟩ : Mach)) z)))
  · intro l R8q hle ha hd
    obtain ⟨d0, d1, d2, _⟩ := hd
    have f55g : phG (true && ((!y129) == false)) (phX (.int .i64 y73.2)) (l 55) R8q := d0 rfl
    have f57g : phG (true && ((!y129) == false)) (phX (.int .i64 (y131.getD default))) (l 57) R8q := d1 rfl
    exact gstep_guard (Gj := true) (Bj := !y129) rfl rfl rfl (gtrue (d2 rfl)) rfl (fun hG hB => ph_val (val_neq (show l 55 = (.int .i64 y73.2) from f55g.1 (gandT rfl hB)) (show l 57 = (.int .i64 (y131.getD default)) from f57g.1 (gandT rfl hB))))
  · intro l R9q hle ha hd
    obtain ⟨d0, d1, _⟩ := hd
    have f54 : l 54 = (.bool (!y129)) := d0 rfl
    have f58g : phG (true && ((!y129) == false)) (phX (.bool (decide (y73.2 ≠ (y131.getD default))))) (l 58) R9q := d1 rfl
    exact gstep_plain rfl rfl rfl (ph_val (val_or f54 rfl (fun hb => (show l 58 = (.bool (decide (y73.2 ≠ (y131.getD default)))) from f58g.1 (gandT rfl hb)))))
  intro v135 h136
  intro v137 h138
  intro v139 h140
  intro v141 h142
  intro v143 h144
  intro v145 h146
  intro v147 h148
  intro v149 h150
  intro v151 h152
  intro v153 h154
  obtain rfl := Eq.symm h136
  obtain rfl := Eq.symm h138
  obtain rfl := Eq.symm h140
  obtain rfl := Eq.symm h142
  obtain rfl := Eq.symm h144
  obtain rfl := Eq.symm h154
  refine wo_nil ?_
  refine wg_cond rfl (fun e155 => ?_) (fun e155 => ?_)
  · replace hd0 := sel_t e155 hd0; clear e155
    refine wg_seq ?_
    refine wg_region ?_
    refine wo_v rfl (val_assign (v := (.bool false)) rfl) ?_
    refine wo_nil ?_
    refine wg_ret ?_
    obtain rfl := Option.some.inj hd0
    refine body_end (D := []) (J := [f122, box b100 [(.int .i64 y88.inputs), (.int .i64 y88.outputs), v95] 27, box b86 [(.int .i64 y73.1.inputs), (.int .i64 y73.1.outputs), v80] 27, f81, box b31 [(.int .i64 y25.inputs), (.int .i64 y25.outputs), v33] 27, box b21 [(.int .i64 y15.inputs), (.int .i64 y15.outputs), v23] 27]) (rs := [.tmp 6]) (vs := [(.bool false)]) (((((((((le4.trans le8).trans le12).trans le20).trans le30).trans le40).trans le79).trans le94).trans le105).trans le134) rfl rfl ⟨rfl, trivial⟩ ?_
    exact ⟨rfl, rfl⟩
  · replace hd0 := sel_f e155 hd0; clear e155
    refine wg_skip ?_
    refine wg_seq ?_
    refine wg_seq ?_
    refine wg_region ?_
    refine wo_v rfl (val_move (v := (.int .i64 y73.2)) rfl) ?_
    refine wo_v rfl (val_neq rfl rfl) ?_
    refine wo_nil ?_
    refine wg_cond rfl (fun e156 => ?_) (fun e156 => ?_)
    · replace hd0 := sel_t e156 hd0; clear e156
      refine wg_seq ?_
      replace hd0 := bd_some hd0; obtain ⟨y157, c158, hd0⟩ := hd0
      refine wg_guarded 18 [] [phX (.pointer (some ⟨b86, 2, none⟩)), phX v80, phX (.int .i64 (↑y73.1.rows.length : Int)), phX (.bool (decide ((↑y73.1.rows.length : Int) = 0))), phX (.bool (decide ((↑y73.1.rows.length : Int) = 0))), phG (true && ((decide ((↑y73.1.rows.length : Int) = 0)) == true)) (phX (.pointer (some ⟨b86, 0, none⟩))), phG (true && ((decide ((↑y73.1.rows.length : Int) = 0)) == true)) (phX (.int .i64 y73.1.inputs)), phG (true && ((decide ((↑y73.1.rows.length : Int) = 0)) == true)) (phX (.bool (decide (y73.1.inputs = 0)))), phX (.bool ((decide ((↑y73.1.rows.length : Int) = 0)) && (decide (y73.1.inputs = 0)))), phX (.bool ((decide ((↑y73.1.rows.length : Int) = 0)) && (decide (y73.1.inputs = 0)))), phG (true && (((decide ((↑y73.1.rows.length : Int) = 0)) && (decide (y73.1.inputs = 0))) == true)) (phX (.pointer (some ⟨b86, 1, none⟩))), phG (true && (((decide ((↑y73.1.rows.length : Int) = 0)) && (decide (y73.1.inputs = 0))) == true)) (phX (.int .i64 y73.1.outputs)), phG (true && (((decide ((↑y73.1.rows.length : Int) = 0)) && (decide (y73.1.inputs = 0))) == true)) (phX (.bool (decide (y73.1.outputs = 0)))), phX (.bool (((decide ((↑y73.1.rows.length : Int) = 0)) && (decide (y73.1.inputs = 0))) && (decide (y73.1.outputs = 0)))), phX (.bool (((decide ((↑y73.1.rows.length : Int) = 0)) && (decide (y73.1.inputs = 0))) && (decide (y73.1.outputs = 0)))), phG (true && ((((decide ((↑y73.1.rows.length : Int) = 0)) && (decide (y73.1.inputs = 0))) && (decide (y73.1.outputs = 0))) == true)) (phX (.bool (y157.getD default))), phX (.bool ((((decide ((↑y73.1.rows.length : Int) = 0)) && (decide (y73.1.inputs = 0))) && (decide (y73.1.outputs = 0))) && (y157.getD default))), phX (.bool ((((decide ((↑y73.1.rows.length : Int) = 0)) && (decide (y73.1.inputs = 0))) && (decide (y73.1.outputs = 0))) && (y157.getD default)))] (by kernel_rfl) (by kernel_rfl) (monoOk_of ⟨mono_x, mono_x, mono_x, mono_x, mono_x, (mono_g mono_x), (mono_g mono_x), (mono_g mono_x), mono_x, mono_x, (mono_g mono_x), (mono_g mono_x), (mono_g mono_x), mono_x, mono_x, (mono_g mono_x), mono_x, mono_x, trivial⟩) ⟨?_, ?_, ?_, ?_, ?_, ?_, ?_, ?_, ?_, ?_, ?_, ?_, ?_, ?_, ?_, ?_, ?_, ?_, trivial⟩ fun R159 le160 => ?_
      · intro l R0q hle ha hd
        have a11 : l 11 = (.pointer (some ⟨b86, 0, none⟩)) := ha 11 rfl
        exact gstep_plain rfl rfl rfl (ph_val (val_fieldB fd27_2 a11))
      · intro l R1q hle ha hd
        obtain ⟨d0, _⟩ := hd
        have f62 : l 62 = (.pointer (some ⟨b86, 2, none⟩)) := d0 rfl
        exact gstep_plain rfl rfl rfl (ph_val (val_loadB (i := 2) ag25 f62 rfl rfl))
      · intro l R2q hle ha hd
        obtain ⟨d0, _⟩ := hd
        have f63 : l 63 = v80 := d0 rfl
        exact gstep_plain rfl rfl rfl (ph_val (val_lenN rfl Try.underlying25 f63 ((h82.mono ((le94.trans le105).trans le134)).mono hle)))
      · intro l R3q hle ha hd
        obtain ⟨d0, _⟩ := hd
        have f64 : l 64 = (.int .i64 (↑y73.1.rows.length : Int)) := d0 rfl
        exact gstep_plain rfl rfl rfl (ph_val (val_eql f64 rfl))
      · intro l R4q hle ha hd
        obtain ⟨d0, _⟩ := hd
        have f65 : l 65 = (.bool (decide ((↑y73.1.rows.length : Int) = 0))) := d0 rfl
        exact gstep_plain rfl rfl rfl (ph_val (val_move f65))
      · intro l R5q hle ha hd
        obtain ⟨d0, _⟩ := hd
        have a11 : l 11 = (.pointer (some ⟨b86, 0, none⟩)) := ha 11 rfl
        exact gstep_guard (Gj := true) (Bj := decide ((↑y73.1.rows.length : Int) = 0)) rfl rfl rfl (gtrue (d0 rfl)) rfl (fun hG hB => ph_val (val_fieldB fd27_0 a11))
      · intro l R6q hle ha hd
        obtain ⟨d0, d1, _⟩ := hd
        have f67g : phG (true && ((decide ((↑y73.1.rows.length : Int) = 0)) == true)) (phX (.pointer (some ⟨b86, 0, none⟩))) (l 67) R6q := d0 rfl
        exact gstep_guard (Gj := true) (Bj := decide ((↑y73.1.rows.length : Int) = 0)) rfl rfl rfl (gtrue (d1 rfl)) rfl (fun hG hB => ph_val (val_loadB (i := 2) ag3 (show l 67 = (.pointer (some ⟨b86, 0, none⟩)) from f67g.1 (gandT rfl hB)) rfl rfl))
      · intro l R7q hle ha hd
        obtain ⟨d0, d1, _⟩ := hd
        have f68g : phG (true && ((decide ((↑y73.1.rows.length : Int) = 0)) == true)) (phX (.int .i64 y73.1.inputs)) (l 68) R7q := d0 rfl
        exact gstep_guard (Gj := true) (Bj := decide ((↑y73.1.rows.length : Int) = 0)) rfl rfl rfl (gtrue (d1 rfl)) rfl (fun hG hB => ph_val (val_eql (show l 68 = (.int .i64 y73.1.inputs) from f68g.1 (gandT rfl hB)) rfl))
      · intro l R8q hle ha hd
        obtain ⟨d0, d1, _⟩ := hd
        have f66 : l 66 = (.bool (decide ((↑y73.1.rows.length : Int) = 0))) := d0 rfl
        have f69g : phG (true && ((decide ((↑y73.1.rows.length : Int) = 0)) == true)) (phX (.bool (decide (y73.1.inputs = 0)))) (l 69) R8q := d1 rfl
        exact gstep_plain rfl rfl rfl (ph_val (val_and f66 (fun hb => (show l 69 = (.bool (decide (y73.1.inputs = 0))) from f69g.1 (gandT rfl hb))) rfl))
      · intro l R9q hle ha hd
        obtain ⟨d0, d1, _⟩ := hd
        have f70 : l 70 = (.bool ((decide ((↑y73.1.rows.length : Int) = 0)) && (decide (y73.1.inputs = 0)))) := d0 rfl
        exact gstep_plain rfl rfl rfl (ph_val (val_move f70))
      · intro l R10q hle ha hd
        obtain ⟨d0, _⟩ := hd
        have a11 : l 11 = (.pointer (some ⟨b86, 0, none⟩)) := ha 11 rfl
        exact gstep_guard (Gj := true) (Bj := (decide ((↑y73.1.rows.length : Int) = 0)) && (decide (y73.1.inputs = 0))) rfl rfl rfl (gtrue (d0 rfl)) rfl (fun hG hB => ph_val (val_fieldB fd27_1 a11))
      · intro l R11q hle ha hd
        obtain ⟨d0, d1, _⟩ := hd
        have f72g : phG (true && (((decide ((↑y73.1.rows.length : Int) = 0)) && (decide (y73.1.inputs = 0))) == true)) (phX (.pointer (some ⟨b86, 1, none⟩))) (l 72) R11q := d0 rfl
        exact gstep_guard (Gj := true) (Bj := (decide ((↑y73.1.rows.length : Int) = 0)) && (decide (y73.1.inputs = 0))) rfl rfl rfl (gtrue (d1 rfl)) rfl (fun hG hB => ph_val (val_loadB (i := 2) ag3 (show l 72 = (.pointer (some ⟨b86, 1, none⟩)) from f72g.1 (gandT rfl hB)) rfl rfl))
      · intro l R12q hle ha hd
        obtain ⟨d0, d1, _⟩ := hd
        have f73g : phG (true && (((decide ((↑y73.1.rows.length : Int) = 0)) && (decide (y73.1.inputs = 0))) == true)) (phX (.int .i64 y73.1.outputs)) (l 73) R12q := d0 rfl
        exact gstep_guard (Gj := true) (Bj := (decide ((↑y73.1.rows.length : Int) = 0)) && (decide (y73.1.inputs = 0))) rfl rfl rfl (gtrue (d1 rfl)) rfl (fun hG hB => ph_val (val_eql (show l 73 = (.int .i64 y73.1.outputs) from f73g.1 (gandT rfl hB)) rfl))
      · intro l R13q hle ha hd
        obtain ⟨d0, d1, _⟩ := hd
        have f71 : l 71 = (.bool ((decide ((↑y73.1.rows.length : Int) = 0)) && (decide (y73.1.inputs = 0)))) := d0 rfl
        have f74g : phG (true && (((decide ((↑y73.1.rows.length : Int) = 0)) && (decide (y73.1.inputs = 0))) == true)) (phX (.bool (decide (y73.1.outputs = 0)))) (l 74) R13q := d1 rfl
        exact gstep_plain rfl rfl rfl (ph_val (val_and f71 (fun hb => (show l 74 = (.bool (decide (y73.1.outputs = 0))) from f74g.1 (gandT rfl hb))) rfl))
      · intro l R14q hle ha hd
        obtain ⟨d0, d1, _⟩ := hd
        have f75 : l 75 = (.bool (((decide ((↑y73.1.rows.length : Int) = 0)) && (decide (y73.1.inputs = 0))) && (decide (y73.1.outputs = 0)))) := d0 rfl
        exact gstep_plain rfl rfl rfl (ph_val (val_move f75))
      · intro l R15q hle ha hd
        obtain ⟨d0, d1, _⟩ := hd
        exact gstep_guard (Gj := true) (Bj := ((decide ((↑y73.1.rows.length : Int) = 0)) && (decide (y73.1.inputs = 0))) && (decide (y73.1.outputs = 0))) rfl rfl rfl (gtrue (d0 rfl)) rfl (fun hG hB => ph_callP (vs := []) en19 rfl ((by have z := (gop_def c158 (gandT hG hB)); exact c_gauntletlaw04_lives  z)) (fun _ _ h => h))
      · intro l R16q hle ha hd
        obtain ⟨d0, d1, _⟩ := hd
        have f76 : l 76 = (.bool (((decide ((↑y73.1.rows.length : Int) = 0)) && (decide (y73.1.inputs = 0))) && (decide (y73.1.outputs = 0)))) := d0 rfl
        have f77g : phG (true && ((((decide ((↑y73.1.rows.length : Int) = 0)) && (decide (y73.1.inputs = 0))) && (decide (y73.1.outputs = 0))) == true)) (phX (.bool (y157.getD default))) (l 77) R16q := d1 rfl
        exact gstep_plain rfl rfl rfl (ph_val (val_and f76 (fun hb => (show l 77 = (.bool (y157.getD default)) from f77g.1 (gandT rfl hb))) rfl))
      · intro l R17q hle ha hd
        obtain ⟨d0, d1, d2, d3, d4, d5, d6, d7, d8, d9, d10, d11, d12, d13, d14, d15, d16, d17, d18, _⟩ := hd
        have f78 : l 78 = (.bool ((((decide ((↑y73.1.rows.length : Int) = 0)) && (decide (y73.1.inputs = 0))) && (decide (y73.1.outputs = 0))) && (y157.getD default))) := d0 rfl
        exact gstep_plain rfl rfl rfl (ph_val (val_assign f78))
      intro v161 h162
      intro v163 h164
      intro v165 h166
      intro v167 h168
      intro v169 h170
      intro v171 h172
      intro v173 h174
      intro v175 h176
      intro v177 h178
      intro v179 h180
      intro v181 h182
      intro v183 h184
      intro v185 h186
      intro v187 h188
      intro v189 h190
      intro v191 h192
      intro v193 h194
      intro v195 h196
      obtain rfl := Eq.symm h162
      obtain rfl := Eq.symm h164
      obtain rfl := Eq.symm h166
      obtain rfl := Eq.symm h168
      obtain rfl := Eq.symm h170
      obtain rfl := Eq.symm h178
      obtain rfl := Eq.symm h180
      obtain rfl := Eq.symm h188
      obtain rfl := Eq.symm h190
      obtain rfl := Eq.symm h194
      obtain rfl := Eq.symm h196
      refine wo_nil ?_
      refine wg_ret ?_
      obtain rfl := Option.some.inj hd0
      refine body_end (D := []) (J := [f122, box b100 [(.int .i64 y88.inputs), (.int .i64 y88.outputs), v95] 27, box b86 [(.int .i64 y73.1.inputs), (.int .i64 y73.1.outputs), v80] 27, f81, box b31 [(.int .i64 y25.inputs), (.int .i64 y25.outputs), v33] 27, box b21 [(.int .i64 y15.inputs), (.int .i64 y15.outputs), v23] 27]) (rs := [.tmp 6]) (vs := [(.bool ((((decide ((↑y73.1.rows.length : Int) = 0)) && (decide (y73.1.inputs = 0))) && (decide (y73.1.outputs = 0))) && (y157.getD default)))]) ((((((((((le4.trans le8).trans le12).trans le20).trans le30).trans le40).trans le79).trans le94).trans le105).trans le134).trans le160) rfl rfl ⟨rfl, trivial⟩ ?_
      exact ⟨rfl, rfl⟩
    · replace hd0 := sel_f e156 hd0; clear e156
      refine wg_skip ?_
      refine wg_seq ?_
      refine wg_seq ?_
      replace hd0 := bd_some hd0; obtain ⟨y197, c198, hd0⟩ := hd0
      replace hd0 := bd_some hd0; obtain ⟨y199, c200, hd0⟩ := hd0
      have g201 := (gd_some hd0).1; replace hd0 := (gd_some hd0).2
      have g202 := (gd_some hd0).1; replace hd0 := (gd_some hd0).2
      replace hd0 := bd_some hd0; obtain ⟨y203, c204, hd0⟩ := hd0
      have g205 := (gd_some hd0).1; replace hd0 := (gd_some hd0).2
      have g206 := (gd_some hd0).1; replace hd0 := (gd_some hd0).2
      refine wg_drawn 45 [] [phX (.agg #[(.int .i64 y73.1.inputs), (.int .i64 y73.1.outputs), v80]), phX (.agg #[(.int .i64 y88.inputs), (.int .i64 y88.outputs), v95]), phX (.bool y197), phX (.bool (!y197)), phX (.bool (!y197)), phG (true && ((!y197) == false)) (phX (.pointer (some ⟨b86, 2, none⟩))), phG (true && ((!y197) == false)) (phX v80), phG (true && ((!y197) == false)) (phX (.int .i64 (↑y73.1.rows.length : Int))), phG (true && ((!y197) == false)) (phX (.pointer (some ⟨b86, 2, none⟩))), phG (true && ((!y197) == false)) (phX v80), phG (true && ((!y197) == false)) (phX (.int .i64 (↑y73.1.rows.length : Int))), phG (true && ((!y197) == false)) (phX (.bool (decide ((↑y73.1.rows.length : Int) ≠ (↑y73.1.rows.length : Int))))), phX (.bool ((!y197) || (decide ((↑y73.1.rows.length : Int) ≠ (↑y73.1.rows.length : Int))))), phX (.bool ((!y197) || (decide ((↑y73.1.rows.length : Int) ≠ (↑y73.1.rows.length : Int))))), phG (true && (((!y197) || (decide ((↑y73.1.rows.length : Int) ≠ (↑y73.1.rows.length : Int)))) == false)) (phX (.agg #[(.int .i64 y73.1.inputs), (.int .i64 y73.1.outputs), v80])), phG (true && (((!y197) || (decide ((↑y73.1.rows.length : Int) ≠ (↑y73.1.rows.length : Int)))) == false)) (phX (.agg #[(.int .i64 y15.inputs), (.int .i64 y15.outputs), v23])), phG (true && (((!y197) || (decide ((↑y73.1.rows.length : Int) ≠ (↑y73.1.rows.length : Int)))) == false)) (phX (.bool (y199.getD default))), phG (true && (((!y197) || (decide ((↑y73.1.rows.length : Int) ≠ (↑y73.1.rows.length : Int)))) == false)) (phX (.pointer (some ⟨b21, 2, none⟩))), phG (true && (((!y197) || (decide ((↑y73.1.rows.length : Int) ≠ (↑y73.1.rows.length : Int)))) == false)) (phX v23), phG (true && (((!y197) || (decide ((↑y73.1.rows.length : Int) ≠ (↑y73.1.rows.length : Int)))) == false)) (phX (.int .i64 (place.1 % (↑y15.rows.length : Int)))), phG (true && (((!y197) || (decide ((↑y73.1.rows.length : Int) ≠ (↑y73.1.rows.length : Int)))) == false)) (phP (tSl false kEdge) (ix y15.rows (place.1 % (↑y15.rows.length : Int)))), phG (true && (((!y197) || (decide ((↑y73.1.rows.length : Int) ≠ (↑y73.1.rows.length : Int)))) == false)) (phR (tSl false kEdge) (ix y15.rows (place.1 % (↑y15.rows.length : Int)))), phG (true && (((!y197) || (decide ((↑y73.1.rows.length : Int) ≠ (↑y73.1.rows.length : Int)))) == false)) (phX (.int .i64 (place.2 % y15.inputs))), phG (true && (((!y197) || (decide ((↑y73.1.rows.length : Int) ≠ (↑y73.1.rows.length : Int)))) == false)) (phP kEdge (ix (ix y15.rows (place.1 % (↑y15.rows.length : Int))) (place.2 % y15.inputs))), phG (true && (((!y197) || (decide ((↑y73.1.rows.length : Int) ≠ (↑y73.1.rows.length : Int)))) == false)) (phX (enc_Edge (ix (ix y15.rows (place.1 % (↑y15.rows.length : Int))) (place.2 % y15.inputs)))), phG (true && (((!y197) || (decide ((↑y73.1.rows.length : Int) ≠ (↑y73.1.rows.length : Int)))) == false)) (phX (enc_Edge to_)), phG (true && (((!y197) || (decide ((↑y73.1.rows.length : Int) ≠ (↑y73.1.rows.length : Int)))) == false)) (phX (.bool (decide (((ix (ix y15.rows (place.1 % (↑y15.rows.length : Int))) (place.2 % y15.inputs)).to) = to_.to ∧ ((ix (ix y15.rows (place.1 % (↑y15.rows.length : Int))) (place.2 % y15.inputs)).out) = to_.out)))), phG (true && (((!y197) || (decide ((↑y73.1.rows.length : Int) ≠ (↑y73.1.rows.length : Int)))) == false)) (phX (.bool (decide ((y199.getD default) ≠ (decide (((ix (ix y15.rows (place.1 % (↑y15.rows.length : Int))) (place.2 % y15.inputs)).to) = to_.to ∧ ((ix (ix y15.rows (place.1 % (↑y15.rows.length : Int))) (place.2 % y15.inputs)).out) = to_.out)))))), phX (.bool (((!y197) || (decide ((↑y73.1.rows.length : Int) ≠ (↑y73.1.rows.length : Int)))) || (decide ((y199.getD default) ≠ (decide (((ix (ix y15.rows (place.1 % (↑y15.rows.length : Int))) (place.2 % y15.inputs)).to) = to_.to ∧ ((ix (ix y15.rows (place.1 % (↑y15.rows.length : Int))) (place.2 % y15.inputs)).out) = to_.out)))))), phX (.bool (((!y197) || (decide ((↑y73.1.rows.length : Int) ≠ (↑y73.1.rows.length : Int)))) || (decide ((y199.getD default) ≠ (decide (((ix (ix y15.rows (place.1 % (↑y15.rows.length : Int))) (place.2 % y15.inputs)).to) = to_.to ∧ ((ix (ix y15.rows (place.1 % (↑y15.rows.length : Int))) (place.2 % y15.inputs)).out) = to_.out)))))), phG (true && ((((!y197) || (decide ((↑y73.1.rows.length : Int) ≠ (↑y73.1.rows.length : Int)))) || (decide ((y199.getD default) ≠ (decide (((ix (ix y15.rows (place.1 % (↑y15.rows.length : Int))) (place.2 % y15.inputs)).to) = to_.to ∧ ((ix (ix y15.rows (place.1 % (↑y15.rows.length : Int))) (place.2 % y15.inputs)).out) = to_.out))))) == false)) (phX (.agg #[(.int .i64 y15.inputs), (.int .i64 y15.outputs), v23])), phG (true && ((((!y197) || (decide ((↑y73.1.rows.length : Int) ≠ (↑y73.1.rows.length : Int)))) || (decide ((y199.getD default) ≠ (decide (((ix (ix y15.rows (place.1 % (↑y15.rows.length : Int))) (place.2 % y15.inputs)).to) = to_.to ∧ ((ix (ix y15.rows (place.1 % (↑y15.rows.length : Int))) (place.2 % y15.inputs)).out) = to_.out))))) == false)) (phX (.agg #[(.int .i64 y73.1.inputs), (.int .i64 y73.1.outputs), v80])), phG (true && ((((!y197) || (decide ((↑y73.1.rows.length : Int) ≠ (↑y73.1.rows.length : Int)))) || (decide ((y199.getD default) ≠ (decide (((ix (ix y15.rows (place.1 % (↑y15.rows.length : Int))) (place.2 % y15.inputs)).to) = to_.to ∧ ((ix (ix y15.rows (place.1 % (↑y15.rows.length : Int))) (place.2 % y15.inputs)).out) = to_.out))))) == false)) (phX (.bool (y203.getD default))), phG (true && ((((!y197) || (decide ((↑y73.1.rows.length : Int) ≠ (↑y73.1.rows.length : Int)))) || (decide ((y199.getD default) ≠ (decide (((ix (ix y15.rows (place.1 % (↑y15.rows.length : Int))) (place.2 % y15.inputs)).to) = to_.to ∧ ((ix (ix y15.rows (place.1 % (↑y15.rows.length : Int))) (place.2 % y15.inputs)).out) = to_.out))))) == false)) (phX (.pointer (some ⟨b21, 2, none⟩))), phG (true && ((((!y197) || (decide ((↑y73.1.rows.length : Int) ≠ (↑y73.1.rows.length : Int)))) || (decide ((y199.getD default) ≠ (decide (((ix (ix y15.rows (place.1 % (↑y15.rows.length : Int))) (place.2 % y15.inputs)).to) = to_.to ∧ ((ix (ix y15.rows (place.1 % (↑y15.rows.length : Int))) (place.2 % y15.inputs)).out) = to_.out))))) == false)) (phX v23), phG (true && ((((!y197) || (decide ((↑y73.1.rows.length : Int) ≠ (↑y73.1.rows.length : Int)))) || (decide ((y199.getD default) ≠ (decide (((ix (ix y15.rows (place.1 % (↑y15.rows.length : Int))) (place.2 % y15.inputs)).to) = to_.to ∧ ((ix (ix y15.rows (place.1 % (↑y15.rows.length : Int))) (place.2 % y15.inputs)).out) = to_.out))))) == false)) (phX (.int .i64 (place.1 % (↑y15.rows.length : Int)))), phG (true && ((((!y197) || (decide ((↑y73.1.rows.length : Int) ≠ (↑y73.1.rows.length : Int)))) || (decide ((y199.getD default) ≠ (decide (((ix (ix y15.rows (place.1 % (↑y15.rows.length : Int))) (place.2 % y15.inputs)).to) = to_.to ∧ ((ix (ix y15.rows (place.1 % (↑y15.rows.length : Int))) (place.2 % y15.inputs)).out) = to_.out))))) == false)) (phP (tSl false kEdge) (ix y15.rows (place.1 % (↑y15.rows.length : Int)))), phG (true && ((((!y197) || (decide ((↑y73.1.rows.length : Int) ≠ (↑y73.1.rows.length : Int)))) || (decide ((y199.getD default) ≠ (decide (((ix (ix y15.rows (place.1 % (↑y15.rows.length : Int))) (place.2 % y15.inputs)).to) = to_.to ∧ ((ix (ix y15.rows (place.1 % (↑y15.rows.length : Int))) (place.2 % y15.inputs)).out) = to_.out))))) == false)) (phR (tSl false kEdge) (ix y15.rows (place.1 % (↑y15.rows.length : Int)))), phG (true && ((((!y197) || (decide ((↑y73.1.rows.length : Int) ≠ (↑y73.1.rows.length : Int)))) || (decide ((y199.getD default) ≠ (decide (((ix (ix y15.rows (place.1 % (↑y15.rows.length : Int))) (place.2 % y15.inputs)).to) = to_.to ∧ ((ix (ix y15.rows (place.1 % (↑y15.rows.length : Int))) (place.2 % y15.inputs)).out) = to_.out))))) == false)) (phX (.int .i64 (place.2 % y15.inputs))), phG (true && ((((!y197) || (decide ((↑y73.1.rows.length : Int) ≠ (↑y73.1.rows.length : Int)))) || (decide ((y199.getD default) ≠ (decide (((ix (ix y15.rows (place.1 % (↑y15.rows.length : Int))) (place.2 % y15.inputs)).to) = to_.to ∧ ((ix (ix y15.rows (place.1 % (↑y15.rows.length : Int))) (place.2 % y15.inputs)).out) = to_.out))))) == false)) (phP kEdge (ix (ix y15.rows (place.1 % (↑y15.rows.length : Int))) (place.2 % y15.inputs))), phG (true && ((((!y197) || (decide ((↑y73.1.rows.length : Int) ≠ (↑y73.1.rows.length : Int)))) || (decide ((y199.getD default) ≠ (decide (((ix (ix y15.rows (place.1 % (↑y15.rows.length : Int))) (place.2 % y15.inputs)).to) = to_.to ∧ ((ix (ix y15.rows (place.1 % (↑y15.rows.length : Int))) (place.2 % y15.inputs)).out) = to_.out))))) == false)) (phX (enc_Edge (ix (ix y15.rows (place.1 % (↑y15.rows.length : Int))) (place.2 % y15.inputs)))), phG (true && ((((!y197) || (decide ((↑y73.1.rows.length : Int) ≠ (↑y73.1.rows.length : Int)))) || (decide ((y199.getD default) ≠ (decide (((ix (ix y15.rows (place.1 % (↑y15.rows.length : Int))) (place.2 % y15.inputs)).to) = to_.to ∧ ((ix (ix y15.rows (place.1 % (↑y15.rows.length : Int))) (place.2 % y15.inputs)).out) = to_.out))))) == false)) (phX (enc_Edge to_)), phG (true && ((((!y197) || (decide ((↑y73.1.rows.length : Int) ≠ (↑y73.1.rows.length : Int)))) || (decide ((y199.getD default) ≠ (decide (((ix (ix y15.rows (place.1 % (↑y15.rows.length : Int))) (place.2 % y15.inputs)).to) = to_.to ∧ ((ix (ix y15.rows (place.1 % (↑y15.rows.length : Int))) (place.2 % y15.inputs)).out) = to_.out))))) == false)) (phX (.bool (decide (((ix (ix y15.rows (place.1 % (↑y15.rows.length : Int))) (place.2 % y15.inputs)).to) = to_.to ∧ ((ix (ix y15.rows (place.1 % (↑y15.rows.length : Int))) (place.2 % y15.inputs)).out) = to_.out)))), phG (true && ((((!y197) || (decide ((↑y73.1.rows.length : Int) ≠ (↑y73.1.rows.length : Int)))) || (decide ((y199.getD default) ≠ (decide (((ix (ix y15.rows (place.1 % (↑y15.rows.length : Int))) (place.2 % y15.inputs)).to) = to_.to ∧ ((ix (ix y15.rows (place.1 % (↑y15.rows.length : Int))) (place.2 % y15.inputs)).out) = to_.out))))) == false)) (phX (.bool (decide ((y203.getD default) ≠ (decide (((ix (ix y15.rows (place.1 % (↑y15.rows.length : Int))) (place.2 % y15.inputs)).to) = to_.to ∧ ((ix (ix y15.rows (place.1 % (↑y15.rows.length : Int))) (place.2 % y15.inputs)).out) = to_.out)))))), phX (.bool ((((!y197) || (decide ((↑y73.1.rows.length : Int) ≠ (↑y73.1.rows.length : Int)))) || (decide ((y199.getD default) ≠ (decide (((ix (ix y15.rows (place.1 % (↑y15.rows.length : Int))) (place.2 % y15.inputs)).to) = to_.to ∧ ((ix (ix y15.rows (place.1 % (↑y15.rows.length : Int))) (place.2 % y15.inputs)).out) = to_.out))))) || (decide ((y203.getD default) ≠ (decide (((ix (ix y15.rows (place.1 % (↑y15.rows.length : Int))) (place.2 % y15.inputs)).to) = to_.to ∧ ((ix (ix y15.rows (place.1 % (↑y15.rows.length : Int))) (place.2 % y15.inputs)).out) = to_.out))))))] mixed (by kernel_rfl) (monoOk_of ⟨mono_x, mono_x, mono_x, mono_x, mono_x, (mono_g mono_x), (mono_g mono_x), (mono_g mono_x), (mono_g mono_x), (mono_g mono_x), (mono_g mono_x), (mono_g mono_x), mono_x, mono_x, (mono_g mono_x), (mono_g mono_x), (mono_g mono_x), (mono_g mono_x), (mono_g mono_x), (mono_g mono_x), (mono_g mono_p), (mono_g mono_r), (mono_g mono_x), (mono_g mono_p), (mono_g mono_x), (mono_g mono_x), (mono_g mono_x), (mono_g mono_x), mono_x, mono_x, (mono_g mono_x), (mono_g mono_x), (mono_g mono_x), (mono_g mono_x), (mono_g mono_x), (mono_g mono_x), (mono_g mono_p), (mono_g mono_r), (mono_g mono_x), (mono_g mono_p), (mono_g mono_x), (mono_g mono_x), (mono_g mono_x), (mono_g mono_x), mono_x, trivial⟩) ⟨?_, ?_, ?_, ?_, ?_, ?_, ?_, ?_, ?_, ?_, ?_, ?_, ?_, ?_, ?_, ?_, ?_, ?_, ?_, ?_, ?_, ?_, ?_, ?_, ?_, ?_, ?_, ?_, ?_, ?_, ?_, ?_, ?_, ?_, ?_, ?_, ?_, ?_, ?_, ?_, ?_, ?_, ?_, ?_, ?_, trivial⟩ fun R207 le208 => ?_
      · intro l R0q hle ha hd
        have a11 : l 11 = (.pointer (some ⟨b86, 0, none⟩)) := ha 11 rfl
        exact gstep_plain rfl rfl rfl (ph_val (val_loadBA (i := 2) ag27 sz27 a11 rfl rfl rfl))
      · intro l R1q hle ha hd
        have a13 : l 13 = (.pointer (some ⟨b100, 0, none⟩)) := ha 13 rfl
        exact gstep_plain rfl rfl rfl (ph_val (val_loadBA (i := 1) ag27 sz27 a13 rfl rfl rfl))
      · intro l R2q hle ha hd
        obtain ⟨d0, d1, _⟩ := hd
        have f79 : l 79 = (.agg #[(.int .i64 y73.1.inputs), (.int .i64 y73.1.outputs), v80]) := d0 rfl
        have f80 : l 80 = (.agg #[(.int .i64 y88.inputs), (.int .i64 y88.outputs), v95]) := d1 rfl
        exact gstep_plain rfl rfl rfl (ph_lend (cs := []) (vs := [(.agg #[(.int .i64 y73.1.inputs), (.int .i64 y73.1.outputs), v80]), (.agg #[(.int .i64 y88.inputs), (.int .i64 y88.outputs), v95])]) (φ := fun v => v = (.bool y197)) en36 rfl (by simp only [List.map, ev, f79, f80] <;> rfl) (fun R1q l1q llq => c_gauntletref04_Same (⟨_, ⟨_, _, rfl, rfl, ⟨_, _, rfl, rfl, (rep_one rfl (Sub.v (B := (tSl false (tSl false kEdge))) (sub_sl (sub_sl Sub.refl (fun _ => rfl)) (fun _ => rfl)) (sl_t (t := true) ((lent_n 3 rfl ((nrep_of (h82.mono ((le94.trans le105).trans le134))).mono hle) l1q llq) : VRep (tSlice (tSl true kEdge)) R1q v80 y73.1.rows) cap84)))⟩⟩, rfl⟩ : VRep (kMach false false) _ _ (⟨y73.1.inputs, y73.1.outputs, y73.1.rows⟩ : Mach)) (⟨_, ⟨_, _, rfl, rfl, ⟨_, _, rfl, rfl, (rep_one rfl (sl_f ((lent_n 0 rfl ((nrep_of (h123.mono le134)).mono hle) l1q llq) : VRep (tSlice (tSl false kEdge)) R1q v95 (up y88.rows (place.1 % (↑y15.rows.length : Int)) (up (ix y88.rows (place.1 % (↑y15.rows.length : Int))) (place.2 % y15.inputs) to_)))))⟩⟩, rfl⟩ : VRep (kMach false false) _ _ (⟨y88.inputs, y88.outputs, (up y88.rows (place.1 % (↑y15.rows.length : Int)) (up (ix y88.rows (place.1 % (↑y15.rows.length : Int))) (place.2 % y15.inputs) to_))⟩ : Mach)) c198))
      · intro l R3q hle ha hd
        obtain ⟨d0, _⟩ := hd
        have f81 : l 81 = (.bool y197) := d0 rfl
        exact gstep_plain rfl rfl rfl (ph_val (val_not f81))
      · intro l R4q hle ha hd
        obtain ⟨d0, d1, _⟩ := hd
        have f82 : l 82 = (.bool (!y197)) := d0 rfl
        exact gstep_plain rfl rfl rfl (ph_val (val_move f82))
      · intro l R5q hle ha hd
        obtain ⟨d0, _⟩ := hd
        have a11 : l 11 = (.pointer (some ⟨b86, 0, none⟩)) := ha 11 rfl
        exact gstep_guard (Gj := true) (Bj := !y197) rfl rfl rfl (gtrue (d0 rfl)) rfl (fun hG hB => ph_val (val_fieldB fd27_2 a11))
      · intro l R6q hle ha hd
        obtain ⟨d0, d1, _⟩ := hd
        have f84g : phG (true && ((!y197) == false)) (phX (.pointer (some ⟨b86, 2, none⟩))) (l 84) R6q := d0 rfl
        exact gstep_guard (Gj := true) (Bj := !y197) rfl rfl rfl (gtrue (d1 rfl)) rfl (fun hG hB => ph_val (val_loadB (i := 2) ag25 (show l 84 = (.pointer (some ⟨b86, 2, none⟩)) from f84g.1 (gandT rfl hB)) rfl rfl))
      · intro l R7q hle ha hd
        obtain ⟨d0, d1, _⟩ := hd
        have f85g : phG (true && ((!y197) == false)) (phX v80) (l 85) R7q := d0 rfl
        exact gstep_guard (Gj := true) (Bj := !y197) rfl rfl rfl (gtrue (d1 rfl)) rfl (fun hG hB => ph_val (val_capN rfl Try.underlying25 (show l 85 = v80 from f85g.1 (gandT rfl hB)) ((h82.mono ((le94.trans le105).trans le134)).mono hle) cap84))
      · intro l R8q hle ha hd
        obtain ⟨d0, _⟩ := hd
        have a11 : l 11 = (.pointer (some ⟨b86, 0, none⟩)) := ha 11 rfl
        exact gstep_guard (Gj := true) (Bj := !y197) rfl rfl rfl (gtrue (d0 rfl)) rfl (fun hG hB => ph_val (val_fieldB fd27_2 a11))
      · intro l R9q hle ha hd
        obtain ⟨d0, d1, _⟩ := hd
        have f87g : phG (true && ((!y197) == false)) (phX (.pointer (some ⟨b86, 2, none⟩))) (l 87) R9q := d0 rfl
        exact gstep_guard (Gj := true) (Bj := !y197) rfl rfl rfl (gtrue (d1 rfl)) rfl (fun hG hB => ph_val (val_loadB (i := 2) ag25 (show l 87 = (.pointer (some ⟨b86, 2, none⟩)) from f87g.1 (gandT rfl hB)) rfl rfl))
      · intro l R10q hle ha hd
        obtain ⟨d0, d1, _⟩ := hd
        have f88g : phG (true && ((!y197) == false)) (phX v80) (l 88) R10q := d0 rfl
        exact gstep_guard (Gj := true) (Bj := !y197) rfl rfl rfl (gtrue (d1 rfl)) rfl (fun hG hB => ph_val (val_lenN rfl Try.underlying25 (show l 88 = v80 from f88g.1 (gandT rfl hB)) ((h82.mono ((le94.trans le105).trans le134)).mono hle)))
      · intro l R11q hle ha hd
        obtain ⟨d0, d1, d2, _⟩ := hd
        have f86g : phG (true && ((!y197) == false)) (phX (.int .i64 (↑y73.1.rows.length : Int))) (l 86) R11q := d0 rfl
        have f89g : phG (true && ((!y197) == false)) (phX (.int .i64 (↑y73.1.rows.length : Int))) (l 89) R11q := d1 rfl
        exact gstep_guard (Gj := true) (Bj := !y197) rfl rfl rfl (gtrue (d2 rfl)) rfl (fun hG hB => ph_val (val_neq (show l 86 = (.int .i64 (↑y73.1.rows.length : Int)) from f86g.1 (gandT rfl hB)) (show l 89 = (.int .i64 (↑y73.1.rows.length : Int)) from f89g.1 (gandT rfl hB))))
      · intro l R12q hle ha hd
        obtain ⟨d0, d1, _⟩ := hd
        have f83 : l 83 = (.bool (!y197)) := d0 rfl
        have f90g : phG (true && ((!y197) == false)) (phX (.bool (decide ((↑y73.1.rows.length : Int) ≠ (↑y73.1.rows.length : Int))))) (l 90) R12q := d1 rfl
        exact gstep_plain rfl rfl rfl (ph_val (val_or f83 rfl (fun hb => (show l 90 = (.bool (decide ((↑y73.1.rows.length : Int) ≠ (↑y73.1.rows.length : Int)))) from f90g.1 (gandT rfl hb)))))
      · intro l R13q hle ha hd
        obtain ⟨d0, d1, _⟩ := hd
        have f91 : l 91 = (.bool ((!y197) || (decide ((↑y73.1.rows.length : Int) ≠ (↑y73.1.rows.length : Int))))) := d0 rfl
        exact gstep_plain rfl rfl rfl (ph_val (val_move f91))
      · intro l R14q hle ha hd
        obtain ⟨d0, _⟩ := hd
        have a11 : l 11 = (.pointer (some ⟨b86, 0, none⟩)) := ha 11 rfl
        exact gstep_guard (Gj := true) (Bj := (!y197) || (decide ((↑y73.1.rows.length : Int) ≠ (↑y73.1.rows.length : Int)))) rfl rfl rfl (gtrue (d0 rfl)) rfl (fun hG hB => ph_val (val_loadBA (i := 2) ag27 sz27 a11 rfl rfl rfl))
      · intro l R15q hle ha hd
        obtain ⟨d0, _⟩ := hd
        have a7 : l 7 = (.pointer (some ⟨b21, 0, none⟩)) := ha 7 rfl
        exact gstep_guard (Gj := true) (Bj := (!y197) || (decide ((↑y73.1.rows.length : Int) ≠ (↑y73.1.rows.length : Int)))) rfl rfl rfl (gtrue (d0 rfl)) rfl (fun hG hB => ph_val (val_loadBA (i := 5) ag27 sz27 a7 rfl rfl rfl))
      · intro l R16q hle ha hd
        obtain ⟨d0, d1, d2, d3, _⟩ := hd
        have f93g : phG (true && (((!y197) || (decide ((↑y73.1.rows.length : Int) ≠ (↑y73.1.rows.length : Int)))) == false)) (phX (.agg #[(.int .i64 y73.1.inputs), (.int .i64 y73.1.outputs), v80])) (l 93) R16q := d0 rfl
        have f94g : phG (true && (((!y197) || (decide ((↑y73.1.rows.length : Int) ≠ (↑y73.1.rows.length : Int)))) == false)) (phX (.agg #[(.int .i64 y15.inputs), (.int .i64 y15.outputs), v23])) (l 94) R16q := d1 rfl
        exact gstep_guard (Gj := true) (Bj := (!y197) || (decide ((↑y73.1.rows.length : Int) ≠ (↑y73.1.rows.length : Int)))) rfl rfl rfl (gtrue (d2 rfl)) rfl (fun hG hB => ph_lend (cs := []) (vs := [(.agg #[(.int .i64 y73.1.inputs), (.int .i64 y73.1.outputs), v80]), (.agg #[(.int .i64 y15.inputs), (.int .i64 y15.outputs), v23])]) (φ := fun v => v = (.bool (y199.getD default))) en32 rfl (by simp only [List.map, ev, (show l 93 = (.agg #[(.int .i64 y73.1.inputs), (.int .i64 y73.1.outputs), v80]) from f93g.1 (gandT rfl hB)), (show l 94 = (.agg #[(.int .i64 y15.inputs), (.int .i64 y15.outputs), v23]) from f94g.1 (gandT rfl hB))] <;> rfl) (fun R1q l1q llq => (by have z := (gop_def c200 (gandT hG hB)); exact c_machines_Same (⟨_, ⟨_, _, rfl, rfl, ⟨_, _, rfl, rfl, (rep_one rfl (Sub.v (B := (tSl false (tSl false kEdge))) (sub_sl (sub_sl Sub.refl (fun _ => rfl)) (fun _ => rfl)) (sl_t (t := true) ((lent_n 3 rfl ((nrep_of (h82.mono ((le94.trans le105).trans le134))).mono hle) l1q llq) : VRep (tSlice (tSl true kEdge)) R1q v80 y73.1.rows) cap84)))⟩⟩, rfl⟩ : VRep (kMach false false) _ _ (⟨y73.1.inputs, y73.1.outputs, y73.1.rows⟩ : Mach)) (⟨_, ⟨_, _, rfl, rfl, ⟨_, _, rfl, rfl, (rep_one rfl (((h24.mono (((((le30.trans le40).trans le79).trans le94).trans le105).trans le134)).mono hle).mono l1q))⟩⟩, rfl⟩ : VRep (kMach false false) _ _ (⟨y15.inputs, y15.outputs, y15.rows⟩ : Mach)) z)))
      · intro l R17q hle ha hd
        obtain ⟨d0, _⟩ := hd
        have a7 : l 7 = (.pointer (some ⟨b21, 0, none⟩)) := ha 7 rfl
        exact gstep_guard (Gj := true) (Bj := (!y197) || (decide ((↑y73.1.rows.length : Int) ≠ (↑y73.1.rows.length : Int)))) rfl rfl rfl (gtrue (d0 rfl)) rfl (fun hG hB => ph_val (val_fieldB fd27_2 a7))
      · intro l R18q hle ha hd
        obtain ⟨d0, d1, _⟩ := hd
        have f96g : phG (true && (((!y197) || (decide ((↑y73.1.rows.length : Int) ≠ (↑y73.1.rows.length : Int)))) == false)) (phX (.pointer (some ⟨b21, 2, none⟩))) (l 96) R18q := d0 rfl
        exact gstep_guard (Gj := true) (Bj := (!y197) || (decide ((↑y73.1.rows.length : Int) ≠ (↑y73.1.rows.length : Int)))) rfl rfl rfl (gtrue (d1 rfl)) rfl (fun hG hB => ph_val (val_loadB (i := 5) ag25 (show l 96 = (.pointer (some ⟨b21, 2, none⟩)) from f96g.1 (gandT rfl hB)) rfl rfl))
      · intro l R19q hle ha hd
        obtain ⟨d0, _⟩ := hd
        have a9 : l 9 = (.int .i64 (place.1 % (↑y15.rows.length : Int))) := ha 9 rfl
        exact gstep_guard (Gj := true) (Bj := (!y197) || (decide ((↑y73.1.rows.length : Int) ≠ (↑y73.1.rows.length : Int)))) rfl rfl rfl (gtrue (d0 rfl)) rfl (fun hG hB => ph_val (val_move a9))
      · intro l R20q hle ha hd
        obtain ⟨d0, d1, d2, _⟩ := hd
        have f97g : phG (true && (((!y197) || (decide ((↑y73.1.rows.length : Int) ≠ (↑y73.1.rows.length : Int)))) == false)) (phX v23) (l 97) R20q := d0 rfl
        have f98g : phG (true && (((!y197) || (decide ((↑y73.1.rows.length : Int) ≠ (↑y73.1.rows.length : Int)))) == false)) (phX (.int .i64 (place.1 % (↑y15.rows.length : Int)))) (l 98) R20q := d1 rfl
        exact gstep_guard (Gj := true) (Bj := (!y197) || (decide ((↑y73.1.rows.length : Int) ≠ (↑y73.1.rows.length : Int)))) rfl rfl rfl (gtrue (d2 rfl)) rfl (fun hG hB => ph_indexR (i := (place.1 % (↑y15.rows.length : Int)).toNat) sl25 (show l 97 = v23 from f97g.1 (gandT rfl hB)) (sl_s ((h24.mono (((((le30.trans le40).trans le79).trans le94).trans le105).trans le134)).mono hle)) (idx_nonneg (show l 98 = (.int .i64 (place.1 % (↑y15.rows.length : Int))) from f98g.1 (gandT rfl hB)) (g201 (gandT hG hB)).1) (okI_lt (g201 (gandT hG hB))))
      · intro l R21q hle ha hd
        obtain ⟨d0, d1, _⟩ := hd
        have f99g : phG (true && (((!y197) || (decide ((↑y73.1.rows.length : Int) ≠ (↑y73.1.rows.length : Int)))) == false)) (phP (tSl false kEdge) (ix y15.rows (place.1 % (↑y15.rows.length : Int)))) (l 99) R21q := d0 rfl
        exact gstep_guard (Gj := true) (Bj := (!y197) || (decide ((↑y73.1.rows.length : Int) ≠ (↑y73.1.rows.length : Int)))) rfl rfl rfl (gtrue (d1 rfl)) rfl (fun hG hB => ph_loadR ty41 rfl (f99g.1 (gandT rfl hB)))
      · intro l R22q hle ha hd
        obtain ⟨d0, _⟩ := hd
        have a10 : l 10 = (.int .i64 (place.2 % y15.inputs)) := ha 10 rfl
        exact gstep_guard (Gj := true) (Bj := (!y197) || (decide ((↑y73.1.rows.length : Int) ≠ (↑y73.1.rows.length : Int)))) rfl rfl rfl (gtrue (d0 rfl)) rfl (fun hG hB => ph_val (val_move a10))
      · intro l R23q hle ha hd
        obtain ⟨d0, d1, d2, _⟩ := hd
        have f100g : phG (true && (((!y197) || (decide ((↑y73.1.rows.length : Int) ≠ (↑y73.1.rows.length : Int)))) == false)) (phR (tSl false kEdge) (ix y15.rows (place.1 % (↑y15.rows.length : Int)))) (l 100) R23q := d0 rfl
        have f101g : phG (true && (((!y197) || (decide ((↑y73.1.rows.length : Int) ≠ (↑y73.1.rows.length : Int)))) == false)) (phX (.int .i64 (place.2 % y15.inputs))) (l 101) R23q := d1 rfl
        exact gstep_guard (Gj := true) (Bj := (!y197) || (decide ((↑y73.1.rows.length : Int) ≠ (↑y73.1.rows.length : Int)))) rfl rfl rfl (gtrue (d2 rfl)) rfl (fun hG hB => ph_indexR (i := (place.2 % y15.inputs).toNat) sl41 rfl (sl_s (f100g.1 (gandT rfl hB))) (idx_nonneg (show l 101 = (.int .i64 (place.2 % y15.inputs)) from f101g.1 (gandT rfl hB)) (g202 (gandT hG hB)).1) (okI_lt (g202 (gandT hG hB))))
      · intro l R24q hle ha hd
        obtain ⟨d0, d1, _⟩ := hd
        have f102g : phG (true && (((!y197) || (decide ((↑y73.1.rows.length : Int) ≠ (↑y73.1.rows.length : Int)))) == false)) (phP kEdge (ix (ix y15.rows (place.1 % (↑y15.rows.length : Int))) (place.2 % y15.inputs))) (l 102) R24q := d0 rfl
        exact gstep_guard (Gj := true) (Bj := (!y197) || (decide ((↑y73.1.rows.length : Int) ≠ (↑y73.1.rows.length : Int)))) rfl rfl rfl (gtrue (d1 rfl)) rfl (fun hG hB => ph_exact (ph_loadR ty40 rfl (f102g.1 (gandT rfl hB))) (fun _ _ h => vrep_Edge.1 h))
      · intro l R25q hle ha hd
        obtain ⟨d0, _⟩ := hd
        have a5 : l 5 = v9 := ha 5 rfl
        exact gstep_guard (Gj := true) (Bj := (!y197) || (decide ((↑y73.1.rows.length : Int) ≠ (↑y73.1.rows.length : Int)))) rfl rfl rfl (gtrue (d0 rfl)) rfl (fun hG hB => ph_exact (ph_loadR ty40 a5 ((h10.mono ((((((le20.trans le30).trans le40).trans le79).trans le94).trans le105).trans le134)).mono hle)) (fun _ _ h => vrep_Edge.1 h))
      · intro l R26q hle ha hd
        obtain ⟨d0, d1, d2, _⟩ := hd
        have f103g : phG (true && (((!y197) || (decide ((↑y73.1.rows.length : Int) ≠ (↑y73.1.rows.length : Int)))) == false)) (phX (enc_Edge (ix (ix y15.rows (place.1 % (↑y15.rows.length : Int))) (place.2 % y15.inputs)))) (l 103) R26q := d0 rfl
        have f104g : phG (true && (((!y197) || (decide ((↑y73.1.rows.length : Int) ≠ (↑y73.1.rows.length : Int)))) == false)) (phX (enc_Edge to_)) (l 104) R26q := d1 rfl
        exact gstep_guard (Gj := true) (Bj := (!y197) || (decide ((↑y73.1.rows.length : Int) ≠ (↑y73.1.rows.length : Int)))) rfl rfl rfl (gtrue (d2 rfl)) rfl (fun hG hB => ph_val (val_eql2 eq40 (show l 103 = (enc_Edge (ix (ix y15.rows (place.1 % (↑y15.rows.length : Int))) (place.2 % y15.inputs))) from f103g.1 (gandT rfl hB)) (show l 104 = (enc_Edge to_) from f104g.1 (gandT rfl hB))))
      · intro l R27q hle ha hd
        obtain ⟨d0, d1, d2, _⟩ := hd
        have f95g : phG (true && (((!y197) || (decide ((↑y73.1.rows.length : Int) ≠ (↑y73.1.rows.length : Int)))) == false)) (phX (.bool (y199.getD default))) (l 95) R27q := d0 rfl
        have f105g : phG (true && (((!y197) || (decide ((↑y73.1.rows.length : Int) ≠ (↑y73.1.rows.length : Int)))) == false)) (phX (.bool (decide (((ix (ix y15.rows (place.1 % (↑y15.rows.length : Int))) (place.2 % y15.inputs)).to) = to_.to ∧ ((ix (ix y15.rows (place.1 % (↑y15.rows.length : Int))) (place.2 % y15.inputs)).out) = to_.out)))) (l 105) R27q := d1 rfl
        exact gstep_guard (Gj := true) (Bj := (!y197) || (decide ((↑y73.1.rows.length : Int) ≠ (↑y73.1.rows.length : Int)))) rfl rfl rfl (gtrue (d2 rfl)) rfl (fun hG hB => ph_val (val_neqB Try.underlying4 (show l 95 = (.bool (y199.getD default)) from f95g.1 (gandT rfl hB)) (show l 105 = (.bool (decide (((ix (ix y15.rows (place.1 % (↑y15.rows.length : Int))) (place.2 % y15.inputs)).to) = to_.to ∧ ((ix (ix y15.rows (place.1 % (↑y15.rows.length : Int))) (place.2 % y15.inputs)).out) = to_.out))) from f105g.1 (gandT rfl hB))))
      · intro l R28q hle ha hd
        obtain ⟨d0, d1, _⟩ := hd
        have f92 : l 92 = (.bool ((!y197) || (decide ((↑y73.1.rows.length : Int) ≠ (↑y73.1.rows.length : Int))))) := d0 rfl
        have f106g : phG (true && (((!y197) || (decide ((↑y73.1.rows.length : Int) ≠ (↑y73.1.rows.length : Int)))) == false)) (phX (.bool (decide ((y199.getD default) ≠ (decide (((ix (ix y15.rows (place.1 % (↑y15.rows.length : Int))) (place.2 % y15.inputs)).to) = to_.to ∧ ((ix (ix y15.rows (place.1 % (↑y15.rows.length : Int))) (place.2 % y15.inputs)).out) = to_.out)))))) (l 106) R28q := d1 rfl
        exact gstep_plain rfl rfl rfl (ph_val (val_or f92 rfl (fun hb => (show l 106 = (.bool (decide ((y199.getD default) ≠ (decide (((ix (ix y15.rows (place.1 % (↑y15.rows.length : Int))) (place.2 % y15.inputs)).to) = to_.to ∧ ((ix (ix y15.rows (place.1 % (↑y15.rows.length : Int))) (place.2 % y15.inputs)).out) = to_.out))))) from f106g.1 (gandT rfl hb)))))
      · intro l R29q hle ha hd
        obtain ⟨d0, d1, _⟩ := hd
        have f107 : l 107 = (.bool (((!y197) || (decide ((↑y73.1.rows.length : Int) ≠ (↑y73.1.rows.length : Int)))) || (decide ((y199.getD default) ≠ (decide (((ix (ix y15.rows (place.1 % (↑y15.rows.length : Int))) (place.2 % y15.inputs)).to) = to_.to ∧ ((ix (ix y15.rows (place.1 % (↑y15.rows.length : Int))) (place.2 % y15.inputs)).out) = to_.out)))))) := d0 rfl
        exact gstep_plain rfl rfl rfl (ph_val (val_move f107))
      · intro l R30q hle ha hd
        obtain ⟨d0, _⟩ := hd
        have a7 : l 7 = (.pointer (some ⟨b21, 0, none⟩)) := ha 7 rfl
        exact gstep_guard (Gj := true) (Bj := ((!y197) || (decide ((↑y73.1.rows.length : Int) ≠ (↑y73.1.rows.length : Int)))) || (decide ((y199.getD default) ≠ (decide (((ix (ix y15.rows (place.1 % (↑y15.rows.length : Int))) (place.2 % y15.inputs)).to) = to_.to ∧ ((ix (ix y15.rows (place.1 % (↑y15.rows.length : Int))) (place.2 % y15.inputs)).out) = to_.out))))) rfl rfl rfl (gtrue (d0 rfl)) rfl (fun hG hB => ph_val (val_loadBA (i := 5) ag27 sz27 a7 rfl rfl rfl))
      · intro l R31q hle ha hd
        obtain ⟨d0, _⟩ := hd
        have a11 : l 11 = (.pointer (some ⟨b86, 0, none⟩)) := ha 11 rfl
        exact gstep_guard (Gj := true) (Bj := ((!y197) || (decide ((↑y73.1.rows.length : Int) ≠ (↑y73.1.rows.length : Int)))) || (decide ((y199.getD default) ≠ (decide (((ix (ix y15.rows (place.1 % (↑y15.rows.length : Int))) (place.2 % y15.inputs)).to) = to_.to ∧ ((ix (ix y15.rows (place.1 % (↑y15.rows.length : Int))) (place.2 % y15.inputs)).out) = to_.out))))) rfl rfl rfl (gtrue (d0 rfl)) rfl (fun hG hB => ph_val (val_loadBA (i := 2) ag27 sz27 a11 rfl rfl rfl))
      · intro l R32q hle ha hd
        obtain ⟨d0, d1, d2, d3, _⟩ := hd
        have f109g : phG (true && ((((!y197) || (decide ((↑y73.1.rows.length : Int) ≠ (↑y73.1.rows.length : Int)))) || (decide ((y199.getD default) ≠ (decide (((ix (ix y15.rows (place.1 % (↑y15.rows.length : Int))) (place.2 % y15.inputs)).to) = to_.to ∧ ((ix (ix y15.rows (place.1 % (↑y15.rows.length : Int))) (place.2 % y15.inputs)).out) = to_.out))))) == false)) (phX (.agg #[(.int .i64 y15.inputs), (.int .i64 y15.outputs), v23])) (l 109) R32q := d0 rfl
        have f110g : phG (true && ((((!y197) || (decide ((↑y73.1.rows.length : Int) ≠ (↑y73.1.rows.length : Int)))) || (decide ((y199.getD default) ≠ (decide (((ix (ix y15.rows (place.1 % (↑y15.rows.length : Int))) (place.2 % y15.inputs)).to) = to_.to ∧ ((ix (ix y15.rows (place.1 % (↑y15.rows.length : Int))) (place.2 % y15.inputs)).out) = to_.out))))) == false)) (phX (.agg #[(.int .i64 y73.1.inputs), (.int .i64 y73.1.outputs), v80])) (l 110) R32q := d1 rfl
        exact gstep_guard (Gj := true) (Bj := ((!y197) || (decide ((↑y73.1.rows.length : Int) ≠ (↑y73.1.rows.length : Int)))) || (decide ((y199.getD default) ≠ (decide (((ix (ix y15.rows (place.1 % (↑y15.rows.length : Int))) (place.2 % y15.inputs)).to) = to_.to ∧ ((ix (ix y15.rows (place.1 % (↑y15.rows.length : Int))) (place.2 % y15.inputs)).out) = to_.out))))) rfl rfl rfl (gtrue (d2 rfl)) rfl (fun hG hB => ph_lend (cs := []) (vs := [(.agg #[(.int .i64 y15.inputs), (.int .i64 y15.outputs), v23]), (.agg #[(.int .i64 y73.1.inputs), (.int .i64 y73.1.outputs), v80])]) (φ := fun v => v = (.bool (y203.getD default))) en32 rfl (by simp only [List.map, ev, (show l 109 = (.agg #[(.int .i64 y15.inputs), (.int .i64 y15.outputs), v23]) from f109g.1 (gandT rfl hB)), (show l 110 = (.agg #[(.int .i64 y73.1.inputs), (.int .i64 y73.1.outputs), v80]) from f110g.1 (gandT rfl hB))] <;> rfl) (fun R1q l1q llq => (by have z := (gop_def c204 (gandT hG hB)); exact c_machines_Same (⟨_, ⟨_, _, rfl, rfl, ⟨_, _, rfl, rfl, (rep_one rfl (((h24.mono (((((le30.trans le40).trans le79).trans le94).trans le105).trans le134)).mono hle).mono l1q))⟩⟩, rfl⟩ : VRep (kMach false false) _ _ (⟨y15.inputs, y15.outputs, y15.rows⟩ : Mach)) (⟨_, ⟨_, _, rfl, rfl, ⟨_, _, rfl, rfl, (rep_one rfl (Sub.v (B := (tSl false (tSl false kEdge))) (sub_sl (sub_sl Sub.refl (fun _ => rfl)) (fun _ => rfl)) (sl_t (t := true) ((lent_n 3 rfl ((nrep_of (h82.mono ((le94.trans le105).trans le134))).mono hle) l1q llq) : VRep (tSlice (tSl true kEdge)) R1q v80 y73.1.rows) cap84)))⟩⟩, rfl⟩ : VRep (kMach false false) _ _ (⟨y73.1.inputs, y73.1.outputs, y73.1.rows⟩ : Mach)) z)))
      · intro l R33q hle ha hd
        obtain ⟨d0, _⟩ := hd
        have a7 : l 7 = (.pointer (some ⟨b21, 0, none⟩)) := ha 7 rfl
        exact gstep_guard (Gj := true) (Bj := ((!y197) || (decide ((↑y73.1.rows.length : Int) ≠ (↑y73.1.rows.length : Int)))) || (decide ((y199.getD default) ≠ (decide (((ix (ix y15.rows (place.1 % (↑y15.rows.length : Int))) (place.2 % y15.inputs)).to) = to_.to ∧ ((ix (ix y15.rows (place.1 % (↑y15.rows.length : Int))) (place.2 % y15.inputs)).out) = to_.out))))) rfl rfl rfl (gtrue (d0 rfl)) rfl (fun hG hB => ph_val (val_fieldB fd27_2 a7))
      · intro l R34q hle ha hd
        obtain ⟨d0, d1, _⟩ := hd
        have f112g : phG (true && ((((!y197) || (decide ((↑y73.1.rows.length : Int) ≠ (↑y73.1.rows.length : Int)))) || (decide ((y199.getD default) ≠ (decide (((ix (ix y15.rows (place.1 % (↑y15.rows.length : Int))) (place.2 % y15.inputs)).to) = to_.to ∧ ((ix (ix y15.rows (place.1 % (↑y15.rows.length : Int))) (place.2 % y15.inputs)).out) = to_.out))))) == false)) (phX (.pointer (some ⟨b21, 2, none⟩))) (l 112) R34q := d0 rfl
        exact gstep_guard (Gj := true) (Bj := ((!y197) || (decide ((↑y73.1.rows.length : Int) ≠ (↑y73.1.rows.length : Int)))) || (decide ((y199.getD default) ≠ (decide (((ix (ix y15.rows (place.1 % (↑y15.rows.length : Int))) (place.2 % y15.inputs)).to) = to_.to ∧ ((ix (ix y15.rows (place.1 % (↑y15.rows.length : Int))) (place.2 % y15.inputs)).out) = to_.out))))) rfl rfl rfl (gtrue (d1 rfl)) rfl (fun hG hB => ph_val (val_loadB (i := 5) ag25 (show l 112 = (.pointer (some ⟨b21, 2, none⟩)) from f112g.1 (gandT rfl hB)) rfl rfl))
      · intro l R35q hle ha hd
        obtain ⟨d0, _⟩ := hd
        have a9 : l 9 = (.int .i64 (place.1 % (↑y15.rows.length : Int))) := ha 9 rfl
        exact gstep_guard (Gj := true) (Bj := ((!y197) || (decide ((↑y73.1.rows.length : Int) ≠ (↑y73.1.rows.length : Int)))) || (decide ((y199.getD default) ≠ (decide (((ix (ix y15.rows (place.1 % (↑y15.rows.length : Int))) (place.2 % y15.inputs)).to) = to_.to ∧ ((ix (ix y15.rows (place.1 % (↑y15.rows.length : Int))) (place.2 % y15.inputs)).out) = to_.out))))) rfl rfl rfl (gtrue (d0 rfl)) rfl (fun hG hB => ph_val (val_move a9))
      · intro l R36q hle ha hd
        obtain ⟨d0, d1, d2, _⟩ := hd
        have f113g : phG (true && ((((!y197) || (decide ((↑y73.1.rows.length : Int) ≠ (↑y73.1.rows.length : Int)))) || (decide ((y199.getD default) ≠ (decide (((ix (ix y15.rows (place.1 % (↑y15.rows.length : Int))) (place.2 % y15.inputs)).to) = to_.to ∧ ((ix (ix y15.rows (place.1 % (↑y15.rows.length : Int))) (place.2 % y15.inputs)).out) = to_.out))))) == false)) (phX v23) (l 113) R36q := d0 rfl
        have f114g : phG (true && ((((!y197) || (decide ((↑y73.1.rows.length : Int) ≠ (↑y73.1.rows.length : Int)))) || (decide ((y199.getD default) ≠ (decide (((ix (ix y15.rows (place.1 % (↑y15.rows.length : Int))) (place.2 % y15.inputs)).to) = to_.to ∧ ((ix (ix y15.rows (place.1 % (↑y15.rows.length : Int))) (place.2 % y15.inputs)).out) = to_.out))))) == false)) (phX (.int .i64 (place.1 % (↑y15.rows.length : Int)))) (l 114) R36q := d1 rfl
        exact gstep_guard (Gj := true) (Bj := ((!y197) || (decide ((↑y73.1.rows.length : Int) ≠ (↑y73.1.rows.length : Int)))) || (decide ((y199.getD default) ≠ (decide (((ix (ix y15.rows (place.1 % (↑y15.rows.length : Int))) (place.2 % y15.inputs)).to) = to_.to ∧ ((ix (ix y15.rows (place.1 % (↑y15.rows.length : Int))) (place.2 % y15.inputs)).out) = to_.out))))) rfl rfl rfl (gtrue (d2 rfl)) rfl (fun hG hB => ph_indexR (i := (place.1 % (↑y15.rows.length : Int)).toNat) sl25 (show l 113 = v23 from f113g.1 (gandT rfl hB)) (sl_s ((h24.mono (((((le30.trans le40).trans le79).trans le94).trans le105).trans le134)).mono hle)) (idx_nonneg (show l 114 = (.int .i64 (place.1 % (↑y15.rows.length : Int))) from f114g.1 (gandT rfl hB)) (g205 (gandT hG hB)).1) (okI_lt (g205 (gandT hG hB))))
      · intro l R37q hle ha hd
        obtain ⟨d0, d1, _⟩ := hd
        have f115g : phG (true && ((((!y197) || (decide ((↑y73.1.rows.length : Int) ≠ (↑y73.1.rows.length : Int)))) || (decide ((y199.getD default) ≠ (decide (((ix (ix y15.rows (place.1 % (↑y15.rows.length : Int))) (place.2 % y15.inputs)).to) = to_.to ∧ ((ix (ix y15.rows (place.1 % (↑y15.rows.length : Int))) (place.2 % y15.inputs)).out) = to_.out))))) == false)) (phP (tSl false kEdge) (ix y15.rows (place.1 % (↑y15.rows.length : Int)))) (l 115) R37q := d0 rfl
        exact gstep_guard (Gj := true) (Bj := ((!y197) || (decide ((↑y73.1.rows.length : Int) ≠ (↑y73.1.rows.length : Int)))) || (decide ((y199.getD default) ≠ (decide (((ix (ix y15.rows (place.1 % (↑y15.rows.length : Int))) (place.2 % y15.inputs)).to) = to_.to ∧ ((ix (ix y15.rows (place.1 % (↑y15.rows.length : Int))) (place.2 % y15.inputs)).out) = to_.out))))) rfl rfl rfl (gtrue (d1 rfl)) rfl (fun hG hB => ph_loadR ty41 rfl (f115g.1 (gandT rfl hB)))
      · intro l R38q hle ha hd
        obtain ⟨d0, _⟩ := hd
        have a10 : l 10 = (.int .i64 (place.2 % y15.inputs)) := ha 10 rfl
        exact gstep_guard (Gj := true) (Bj := ((!y197) || (decide ((↑y73.1.rows.length : Int) ≠ (↑y73.1.rows.length : Int)))) || (decide ((y199.getD default) ≠ (decide (((ix (ix y15.rows (place.1 % (↑y15.rows.length : Int))) (place.2 % y15.inputs)).to) = to_.to ∧ ((ix (ix y15.rows (place.1 % (↑y15.rows.length : Int))) (place.2 % y15.inputs)).out) = to_.out))))) rfl rfl rfl (gtrue (d0 rfl)) rfl (fun hG hB => ph_val (val_move a10))
      · intro l R39q hle ha hd
        obtain ⟨d0, d1, d2, _⟩ := hd
        have f116g : phG (true && ((((!y197) || (decide ((↑y73.1.rows.length : Int) ≠ (↑y73.1.rows.length : Int)))) || (decide ((y199.getD default) ≠ (decide (((ix (ix y15.rows (place.1 % (↑y15.rows.length : Int))) (place.2 % y15.inputs)).to) = to_.to ∧ ((ix (ix y15.rows (place.1 % (↑y15.rows.length : Int))) (place.2 % y15.inputs)).out) = to_.out))))) == false)) (phR (tSl false kEdge) (ix y15.rows (place.1 % (↑y15.rows.length : Int)))) (l 116) R39q := d0 rfl
        have f117g : phG (true && ((((!y197) || (decide ((↑y73.1.rows.length : Int) ≠ (↑y73.1.rows.length : Int)))) || (decide ((y199.getD default) ≠ (decide (((ix (ix y15.rows (place.1 % (↑y15.rows.length : Int))) (place.2 % y15.inputs)).to) = to_.to ∧ ((ix (ix y15.rows (place.1 % (↑y15.rows.length : Int))) (place.2 % y15.inputs)).out) = to_.out))))) == false)) (phX (.int .i64 (place.2 % y15.inputs))) (l 117) R39q := d1 rfl
        exact gstep_guard (Gj := true) (Bj := ((!y197) || (decide ((↑y73.1.rows.length : Int) ≠ (↑y73.1.rows.length : Int)))) || (decide ((y199.getD default) ≠ (decide (((ix (ix y15.rows (place.1 % (↑y15.rows.length : Int))) (place.2 % y15.inputs)).to) = to_.to ∧ ((ix (ix y15.rows (place.1 % (↑y15.rows.length : Int))) (place.2 % y15.inputs)).out) = to_.out))))) rfl rfl rfl (gtrue (d2 rfl)) rfl (fun hG hB => ph_indexR (i := (place.2 % y15.inputs).toNat) sl41 rfl (sl_s (f116g.1 (gandT rfl hB))) (idx_nonneg (show l 117 = (.int .i64 (place.2 % y15.inputs)) from f117g.1 (gandT rfl hB)) (g206 (gandT hG hB)).1) (okI_lt (g206 (gandT hG hB))))
      · intro l R40q hle ha hd
        obtain ⟨d0, d1, _⟩ := hd
        have f118g : phG (true && ((((!y197) || (decide ((↑y73.1.rows.length : Int) ≠ (↑y73.1.rows.length : Int)))) || (decide ((y199.getD default) ≠ (decide (((ix (ix y15.rows (place.1 % (↑y15.rows.length : Int))) (place.2 % y15.inputs)).to) = to_.to ∧ ((ix (ix y15.rows (place.1 % (↑y15.rows.length : Int))) (place.2 % y15.inputs)).out) = to_.out))))) == false)) (phP kEdge (ix (ix y15.rows (place.1 % (↑y15.rows.length : Int))) (place.2 % y15.inputs))) (l 118) R40q := d0 rfl
        exact gstep_guard (Gj := true) (Bj := ((!y197) || (decide ((↑y73.1.rows.length : Int) ≠ (↑y73.1.rows.length : Int)))) || (decide ((y199.getD default) ≠ (decide (((ix (ix y15.rows (place.1 % (↑y15.rows.length : Int))) (place.2 % y15.inputs)).to) = to_.to ∧ ((ix (ix y15.rows (place.1 % (↑y15.rows.length : Int))) (place.2 % y15.inputs)).out) = to_.out))))) rfl rfl rfl (gtrue (d1 rfl)) rfl (fun hG hB => ph_exact (ph_loadR ty40 rfl (f118g.1 (gandT rfl hB))) (fun _ _ h => vrep_Edge.1 h))
      · intro l R41q hle ha hd
        obtain ⟨d0, _⟩ := hd
        have a5 : l 5 = v9 := ha 5 rfl
        exact gstep_guard (Gj := true) (Bj := ((!y197) || (decide ((↑y73.1.rows.length : Int) ≠ (↑y73.1.rows.length : Int)))) || (decide ((y199.getD default) ≠ (decide (((ix (ix y15.rows (place.1 % (↑y15.rows.length : Int))) (place.2 % y15.inputs)).to) = to_.to ∧ ((ix (ix y15.rows (place.1 % (↑y15.rows.length : Int))) (place.2 % y15.inputs)).out) = to_.out))))) rfl rfl rfl (gtrue (d0 rfl)) rfl (fun hG hB => ph_exact (ph_loadR ty40 a5 ((h10.mono ((((((le20.trans le30).trans le40).trans le79).trans le94).trans le105).trans le134)).mono hle)) (fun _ _ h => vrep_Edge.1 h))
      · intro l R42q hle ha hd
        obtain ⟨d0, d1, d2, _⟩ := hd
        have f119g : phG (true && ((((!y197) || (decide ((↑y73.1.rows.length : Int) ≠ (↑y73.1.rows.length : Int)))) || (decide ((y199.getD default) ≠ (decide (((ix (ix y15.rows (place.1 % (↑y15.rows.length : Int))) (place.2 % y15.inputs)).to) = to_.to ∧ ((ix (ix y15.rows (place.1 % (↑y15.rows.length : Int))) (place.2 % y15.inputs)).out) = to_.out))))) == false)) (phX (enc_Edge (ix (ix y15.rows (place.1 % (↑y15.rows.length : Int))) (place.2 % y15.inputs)))) (l 119) R42q := d0 rfl
        have f120g : phG (true && ((((!y197) || (decide ((↑y73.1.rows.length : Int) ≠ (↑y73.1.rows.length : Int)))) || (decide ((y199.getD default) ≠ (decide (((ix (ix y15.rows (place.1 % (↑y15.rows.length : Int))) (place.2 % y15.inputs)).to) = to_.to ∧ ((ix (ix y15.rows (place.1 % (↑y15.rows.length : Int))) (place.2 % y15.inputs)).out) = to_.out))))) == false)) (phX (enc_Edge to_)) (l 120) R42q := d1 rfl
        exact gstep_guard (Gj := true) (Bj := ((!y197) || (decide ((↑y73.1.rows.length : Int) ≠ (↑y73.1.rows.length : Int)))) || (decide ((y199.getD default) ≠ (decide (((ix (ix y15.rows (place.1 % (↑y15.rows.length : Int))) (place.2 % y15.inputs)).to) = to_.to ∧ ((ix (ix y15.rows (place.1 % (↑y15.rows.length : Int))) (place.2 % y15.inputs)).out) = to_.out))))) rfl rfl rfl (gtrue (d2 rfl)) rfl (fun hG hB => ph_val (val_eql2 eq40 (show l 119 = (enc_Edge (ix (ix y15.rows (place.1 % (↑y15.rows.length : Int))) (place.2 % y15.inputs))) from f119g.1 (gandT rfl hB)) (show l 120 = (enc_Edge to_) from f120g.1 (gandT rfl hB))))
      · intro l R43q hle ha hd
        obtain ⟨d0, d1, d2, _⟩ := hd
        have f111g : phG (true && ((((!y197) || (decide ((↑y73.1.rows.length : Int) ≠ (↑y73.1.rows.length : Int)))) || (decide ((y199.getD default) ≠ (decide (((ix (ix y15.rows (place.1 % (↑y15.rows.length : Int))) (place.2 % y15.inputs)).to) = to_.to ∧ ((ix (ix y15.rows (place.1 % (↑y15.rows.length : Int))) (place.2 % y15.inputs)).out) = to_.out))))) == false)) (phX (.bool (y203.getD default))) (l 111) R43q := d0 rfl
        have f121g : phG (true && ((((!y197) || (decide ((↑y73.1.rows.length : Int) ≠ (↑y73.1.rows.length : Int)))) || (decide ((y199.getD default) ≠ (decide (((ix (ix y15.rows (place.1 % (↑y15.rows.length : Int))) (place.2 % y15.inputs)).to) = to_.to ∧ ((ix (ix y15.rows (place.1 % (↑y15.rows.length : Int))) (place.2 % y15.inputs)).out) = to_.out))))) == false)) (phX (.bool (decide (((ix (ix y15.rows (place.1 % (↑y15.rows.length : Int))) (place.2 % y15.inputs)).to) = to_.to ∧ ((ix (ix y15.rows (place.1 % (↑y15.rows.length : Int))) (place.2 % y15.inputs)).out) = to_.out)))) (l 121) R43q := d1 rfl
        exact gstep_guard (Gj := true) (Bj := ((!y197) || (decide ((↑y73.1.rows.length : Int) ≠ (↑y73.1.rows.length : Int)))) || (decide ((y199.getD default) ≠ (decide (((ix (ix y15.rows (place.1 % (↑y15.rows.length : Int))) (place.2 % y15.inputs)).to) = to_.to ∧ ((ix (ix y15.rows (place.1 % (↑y15.rows.length : Int))) (place.2 % y15.inputs)).out) = to_.out))))) rfl rfl rfl (gtrue (d2 rfl)) rfl (fun hG hB => ph_val (val_neqB Try.underlying4 (show l 111 = (.bool (y203.getD default)) from f111g.1 (gandT rfl hB)) (show l 121 = (.bool (decide (((ix (ix y15.rows (place.1 % (↑y15.rows.length : Int))) (place.2 % y15.inputs)).to) = to_.to ∧ ((ix (ix y15.rows (place.1 % (↑y15.rows.length : Int))) (place.2 % y15.inputs)).out) = to_.out))) from f121g.1 (gandT rfl hB))))
      · intro l R44q hle ha hd
        obtain ⟨d0, d1, _⟩ := hd
        have f108 : l 108 = (.bool (((!y197) || (decide ((↑y73.1.rows.length : Int) ≠ (↑y73.1.rows.length : Int)))) || (decide ((y199.getD default) ≠ (decide (((ix (ix y15.rows (place.1 % (↑y15.rows.length : Int))) (place.2 % y15.inputs)).to) = to_.to ∧ ((ix (ix y15.rows (place.1 % (↑y15.rows.length : Int))) (place.2 % y15.inputs)).out) = to_.out)))))) := d0 rfl
        have f122g : phG (true && ((((!y197) || (decide ((↑y73.1.rows.length : Int) ≠ (↑y73.1.rows.length : Int)))) || (decide ((y199.getD default) ≠ (decide (((ix (ix y15.rows (place.1 % (↑y15.rows.length : Int))) (place.2 % y15.inputs)).to) = to_.to ∧ ((ix (ix y15.rows (place.1 % (↑y15.rows.length : Int))) (place.2 % y15.inputs)).out) = to_.out))))) == false)) (phX (.bool (decide ((y203.getD default) ≠ (decide (((ix (ix y15.rows (place.1 % (↑y15.rows.length : Int))) (place.2 % y15.inputs)).to) = to_.to ∧ ((ix (ix y15.rows (place.1 % (↑y15.rows.length : Int))) (place.2 % y15.inputs)).out) = to_.out)))))) (l 122) R44q := d1 rfl
        exact gstep_plain rfl rfl rfl (ph_val (val_or f108 rfl (fun hb => (show l 122 = (.bool (decide ((y203.getD default) ≠ (decide (((ix (ix y15.rows (place.1 % (↑y15.rows.length : Int))) (place.2 % y15.inputs)).to) = to_.to ∧ ((ix (ix y15.rows (place.1 % (↑y15.rows.length : Int))) (place.2 % y15.inputs)).out) = to_.out))))) from f122g.1 (gandT rfl hb)))))
      intro v209 h210
      intro v211 h212
      intro v213 h214
      intro v215 h216
      intro v217 h218
      intro v219 h220
      intro v221 h222
      intro v223 h224
      intro v225 h226
      intro v227 h228
      intro v229 h230
      intro v231 h232
      intro v233 h234
      intro v235 h236
      intro v237 h238
      intro v239 h240
      intro v241 h242
      intro v243 h244
      intro v245 h246
      intro v247 h248
      intro v249 h250
      intro v251 h252
      intro v253 h254
      intro v255 h256
      intro v257 h258
      intro v259 h260
      intro v261 h262
      intro v263 h264
      intro v265 h266
      intro v267 h268
      intro v269 h270
      intro v271 h272
      intro v273 h274
      intro v275 h276
      intro v277 h278
      intro v279 h280
      intro v281 h282
      intro v283 h284
      intro v285 h286
      intro v287 h288
      intro v289 h290
      intro v291 h292
      intro v293 h294
      intro v295 h296
      intro v297 h298
      obtain rfl := Eq.symm h210
      obtain rfl := Eq.symm h212
      obtain rfl := Eq.symm h214
      obtain rfl := Eq.symm h216
      obtain rfl := Eq.symm h218
      obtain rfl := Eq.symm h234
      obtain rfl := Eq.symm h236
      obtain rfl := Eq.symm h266
      obtain rfl := Eq.symm h268
      obtain rfl := Eq.symm h298
      refine wo_nil ?_
      refine wg_cond rfl (fun e299 => ?_) (fun e299 => ?_)
      · replace hd0 := sel_t e299 hd0; clear e299
        refine wg_seq ?_
        refine wg_region ?_
        refine wo_v rfl (val_assign (v := (.bool false)) rfl) ?_
        refine wo_nil ?_
        refine wg_ret ?_
        obtain rfl := Option.some.inj hd0
        refine body_end (D := []) (J := [f122, box b100 [(.int .i64 y88.inputs), (.int .i64 y88.outputs), v95] 27, box b86 [(.int .i64 y73.1.inputs), (.int .i64 y73.1.outputs), v80] 27, f81, box b31 [(.int .i64 y25.inputs), (.int .i64 y25.outputs), v33] 27, box b21 [(.int .i64 y15.inputs), (.int .i64 y15.outputs), v23] 27]) (rs := [.tmp 6]) (vs := [(.bool false)]) ((((((((((le4.trans le8).trans le12).trans le20).trans le30).trans le40).trans le79).trans le94).trans le105).trans le134).trans le208) rfl rfl ⟨rfl, trivial⟩ ?_
        exact ⟨rfl, rfl⟩
      · replace hd0 := sel_f e299 hd0; clear e299
        refine wg_skip ?_
        replace hd0 := bd_some hd0; obtain ⟨o300, hd1, hd0⟩ := hd0
        refine wg_meet (γ := Unit) true [14, 124, 125, 126, 127, 128, 131, 132, 133, 134, 135, 136, 137, 129, 130] (fun g => []) (fun g => [box b21 [(.int .i64 y15.inputs), (.int .i64 y15.outputs), v23] 27, box b31 [(.int .i64 y25.inputs), (.int .i64 y25.outputs), v33] 27] ++ A) (fun g R => o300 = g ∧ True) ?_ ?_
        ·
          refine wg_seq ?_
          refine wg_region ?_
          refine wo_v rfl (val_assign (v := (.int .i64 0)) rfl) ?_
          refine wo_nil ?_
          refine wg_block ?_
          refine wg_loopS (γ := Nat × Int × (List (List Edge)) × Frag) true [124, 125, 126, 127, 128, 131, 132, 133, 134, 135, 136, 137, 129, 130, 14] (fun g => [(14, (.int .i64 g.2.1))]) (fun g => [box b21 [(.int .i64 y15.inputs), (.int .i64 y15.outputs), v23] 27, box b31 [(.int .i64 y25.inputs), (.int .i64 y25.outputs), v33] 27, box b86 [(.int .i64 y73.1.inputs), (.int .i64 y73.1.outputs), v80] 27, g.2.2.2] ++ A) (fun g R => gauntletlaw04_MachinesWith_L1 N g.1 g.2.1 g.2.2.1 = some o300 ∧ NRep true kEdge R g.2.2.2 v80 g.2.2.1 ∧ capOf v80 = g.2.2.1.length ∧ True) (fun g => g.1) (N, 0, y73.1.rows, f81) ⟨rfl, trivial⟩ ⟨[f122, box b100 [(.int .i64 y88.inputs), (.int .i64 y88.outputs), v95] 27], (pk 0 rfl (pk 0 rfl (pk 3 rfl (pk 2 rfl (pk 0 rfl (pk 0 rfl (List.Perm.refl _)))))))⟩ ⟨hd1, (nrep_of (h82.mono (((le94.trans le105).trans le134).trans le208))), cap84, trivial⟩ (fun _ => rfl) ?_
          clear hd1
          rintro ⟨F303, x304, x305, f308⟩ j345 D346 R306 hD347 le307 ⟨hd1, ⟨V310, h309⟩, ht311, _⟩
          obtain rfl := hD347 rfl
          rcases F303 with _ | F303
          · exact none_elim hd1
          replace hd1 : gauntletlaw04_MachinesWith_L1 N (F303 + 1) x304 x305 = some o300 := hd1; rw [gauntletlaw04_MachinesWith_L1] at hd1
          refine wg_seq ?_
          refine wg_seq ?_
          refine wg_region ?_
          refine wo_v rfl (val_move (v := (.int .i64 x304)) rfl) ?_
          refine wo_v rfl (val_fieldB fd27_2 rfl) ?_
          refine wo_v rfl (val_loadB (i := 2) ag25 rfl rfl rfl) ?_
          refine wo_phi rfl (ph_val (val_lenN rfl Try.underlying25 rfl h309)) fun v312 R314 le315 h313 => ?_
          obtain rfl := Eq.symm h313
          refine wo_v rfl (val_lss rfl rfl) ?_
          refine wo_nil ?_
          refine wg_cond rfl (fun e316 => ?_) (fun e316 => ?_)
          · replace hd1 := sel_t e316 hd1; clear e316
            refine wg_skip ?_
            refine wg_seq ?_
            refine wg_block ?_
            have g317 := (gd_some hd1).1; replace hd1 := (gd_some hd1).2
            replace hd1 := bd_some hd1; obtain ⟨y318, c319, hd1⟩ := hd1
            have g320 := (gd_some hd1).1; replace hd1 := (gd_some hd1).2
            refine wg_drawn 7 [] [phX (.pointer (some ⟨b86, 2, none⟩)), phX v80, phX (.int .i64 x304), (fun u _ => OPtr tHdr v80 V310 u x304.toNat), phX (V310.getD x304.toNat default), phX (enc_Edge y318), (fun u _ => OPtr kEdge (V310.getD x304.toNat default) (x305.getD x304.toNat default) u (0 : Int).toNat)] mixed (by kernel_rfl) (monoOk_of ⟨mono_x, mono_x, mono_x, (fun _ _ _ _ h => h), mono_x, mono_x, (fun _ _ _ _ h => h), trivial⟩) ⟨?_, ?_, ?_, ?_, ?_, ?_, ?_, trivial⟩ fun R321 le322 => ?_
            · intro l R0q hle ha hd
              have a11 : l 11 = (.pointer (some ⟨b86, 0, none⟩)) := ha 11 rfl
              exact gstep_plain rfl rfl rfl (ph_val (val_fieldB fd27_2 a11))
            · intro l R1q hle ha hd
              obtain ⟨d0, _⟩ := hd
              have f131 : l 131 = (.pointer (some ⟨b86, 2, none⟩)) := d0 rfl
              exact gstep_plain rfl rfl rfl (ph_val (val_loadB (i := 2) ag25 f131 rfl rfl))
            · intro l R2q hle ha hd
              have a14 : l 14 = (.int .i64 x304) := ha 14 rfl
              exact gstep_plain rfl rfl rfl (ph_val (val_move a14))
            · intro l R3q hle ha hd
              obtain ⟨d0, d1, _⟩ := hd
              have f132 : l 132 = v80 := d0 rfl
              have f133 : l 133 = (.int .i64 x304) := d1 rfl
              exact gstep_plain rfl rfl rfl (ph_indexN (i := x304.toNat) (sl_hdr (b := true) sl25) f132 ((h309.mono le315).mono hle) (idx_nonneg f133 g317.1) (okI_lt g317))
            · intro l R4q hle ha hd
              obtain ⟨d0, _⟩ := hd
              have f134 : (fun u _ => OPtr tHdr v80 V310 u x304.toNat) (l 134) R4q := d0 rfl
              exact gstep_plain rfl rfl rfl (ph_loadN (i := x304.toNat) (j := 3) (ty_hdr (b := true) ty41) ((h309.mono le315).mono hle) rfl rfl f134 (okI_lt g317))
            · intro l R5q hle ha hd
              exact gstep_plain rfl rfl rfl (ph_callP (vs := [(.int .i64 0), (.int .i64 0)]) en18 rfl (c_gauntletlaw04_edge  c319) (fun _ _ h => h))
            · intro l R6q hle ha hd
              obtain ⟨d0, d1, d2, d3, d4, d5, d6, _⟩ := hd
              have f135 : l 135 = (V310.getD x304.toNat default) := d0 rfl
              exact gstep_plain rfl rfl rfl (ph_indexNR (i := (0 : Int).toNat) (r := x304.toNat) sl41 ((h309.mono le315).mono hle) (okI_lt g317) f135 (idx_nonneg rfl g320.1) (okI_lt g320))
            intro v323 h324
            intro v325 h326
            intro v327 h328
            intro v329 h330
            intro v331 h332
            intro v333 h334
            intro v335 h336
            obtain rfl := Eq.symm h324
            obtain rfl := Eq.symm h326
            obtain rfl := Eq.symm h328
            obtain rfl := Eq.symm h332
            obtain rfl := Eq.symm h334
            refine wo_turn0 (Oc := [f308]) (Or := [box b21 [(.int .i64 y15.inputs), (.int .i64 y15.outputs), v23] 27, box b31 [(.int .i64 y25.inputs), (.int .i64 y25.outputs), v33] 27, box b86 [(.int .i64 y73.1.inputs), (.int .i64 y73.1.outputs), v80] 27] ++ A) (pk 3 rfl (pk 0 rfl (pk 0 rfl (pk 0 rfl (List.Perm.refl _))))) (eff_storeN (i := (0 : Int).toNat) (r := x304.toNat) ty40 (h309.mono (le315.trans le322)) (okI_lt g317) rfl h336 (okI_lt g320) rfl (vrep_Edge.2 rfl)) ?_
            rintro v339 R342 Oc341 le343 ⟨rfl, f337, rfl, h338⟩
            replace h338 : N2 true kEdge _ f337 v80 V310 (up x305 x304 (up (ix x305 x304) 0 y318)) := h338
            refine wo_nil ?_
            refine wg_region ?_
            refine wo_v rfl (val_move (v := (.int .i64 x304)) rfl) ?_
            have g344 := (gd_some hd1).1; replace hd1 := (gd_some hd1).2
            refine wo_v rfl (val_add rfl rfl g344) ?_
            refine wo_v rfl (val_assign (v := (.int .i64 (x304 + 1))) rfl) ?_
            refine wo_nil ?_
            exact ⟨(fun _ => rfl), (le315.trans le322), (by repeat (first | exact off_self | refine off_upd rfl ?_ | refine off_setl rfl ?_ | refine off_mask_sub rfl ?_)), (F303, x304 + 1, (up x305 x304 (up (ix x305 x304) 0 y318)), f337), Nat.lt_succ_self _, ⟨rfl, trivial⟩, ⟨[], (pk 1 rfl (pk 1 rfl (pk 1 rfl (pk 0 rfl (List.Perm.refl _)))))⟩, hd1, (nrep_of h338), (ht311.trans List.length_set.symm), trivial⟩
          · replace hd1 := sel_f e316 hd1; clear e316
            refine wg_exit ?_
            exact ⟨(fun _ => rfl), (le307.trans le315), (by repeat (first | exact off_self | refine off_upd rfl ?_ | refine off_setl rfl ?_ | refine off_mask_sub rfl ?_)), (), trivial, ⟨[box b86 [(.int .i64 y73.1.inputs), (.int .i64 y73.1.outputs), v80] 27, f308], (pk 2 rfl (pk 2 rfl (pk 0 rfl (pk 0 rfl (List.Perm.refl _)))))⟩, (Option.some.inj hd1).symm, trivial⟩
        ·
          rintro o300 j348 D349 R301 hD350 le302 ⟨rfl, _⟩
          obtain rfl := hD350 rfl
          refine wg_seq ?_
          replace hd0 := bd_some hd0; obtain ⟨y351, c352, hd0⟩ := hd0
          replace hd0 := bd_some hd0; obtain ⟨y353, c354, hd0⟩ := hd0
          refine wg_guarded 7 [] [phX (.agg #[(.int .i64 y15.inputs), (.int .i64 y15.outputs), v23]), phX (.agg #[(.int .i64 y25.inputs), (.int .i64 y25.outputs), v33]), phX (.bool y351), phX (.bool y351), phG (true && (y351 == true)) (phX (.bool (y353.getD default))), phX (.bool (y351 && (y353.getD default))), phX (.bool (y351 && (y353.getD default)))] (by kernel_rfl) (by kernel_rfl) (monoOk_of ⟨mono_x, mono_x, mono_x, mono_x, (mono_g mono_x), mono_x, mono_x, trivial⟩) ⟨?_, ?_, ?_, ?_, ?_, ?_, ?_, trivial⟩ fun R355 le356 => ?_
          · intro l R0q hle ha hd
            have a7 : l 7 = (.pointer (some ⟨b21, 0, none⟩)) := ha 7 rfl
            exact gstep_plain rfl rfl rfl (ph_val (val_loadBA (i := 0) ag27 sz27 a7 rfl rfl rfl))
          · intro l R1q hle ha hd
            have a8 : l 8 = (.pointer (some ⟨b31, 0, none⟩)) := ha 8 rfl
            exact gstep_plain rfl rfl rfl (ph_val (val_loadBA (i := 1) ag27 sz27 a8 rfl rfl rfl))
          · intro l R2q hle ha hd
            obtain ⟨d0, d1, _⟩ := hd
            have f138 : l 138 = (.agg #[(.int .i64 y15.inputs), (.int .i64 y15.outputs), v23]) := d0 rfl
            have f139 : l 139 = (.agg #[(.int .i64 y25.inputs), (.int .i64 y25.outputs), v33]) := d1 rfl
            exact gstep_plain rfl rfl rfl (ph_callP (vs := [(.agg #[(.int .i64 y15.inputs), (.int .i64 y15.outputs), v23]), (.agg #[(.int .i64 y25.inputs), (.int .i64 y25.outputs), v33])]) en36 (by simp only [List.map, ev, f138, f139] <;> rfl) (c_gauntletref04_Same (⟨_, ⟨_, _, rfl, rfl, ⟨_, _, rfl, rfl, (rep_one rfl ((h24.mono (((((((le30.trans le40).trans le79).trans le94).trans le105).trans le134).trans le208).trans le302)).mono hle))⟩⟩, rfl⟩ : VRep (kMach false false) _ _ (⟨y15.inputs, y15.outputs, y15.rows⟩ : Mach)) (⟨_, ⟨_, _, rfl, rfl, ⟨_, _, rfl, rfl, (rep_one rfl ((h34.mono ((((((le40.trans le79).trans le94).trans le105).trans le134).trans le208).trans le302)).mono hle))⟩⟩, rfl⟩ : VRep (kMach false false) _ _ (⟨y25.inputs, y25.outputs, y25.rows⟩ : Mach)) c352) (fun _ _ h => h))
          · intro l R3q hle ha hd
            obtain ⟨d0, d1, _⟩ := hd
            have f140 : l 140 = (.bool y351) := d0 rfl
            exact gstep_plain rfl rfl rfl (ph_val (val_move f140))
          · intro l R4q hle ha hd
            obtain ⟨d0, d1, _⟩ := hd
            exact gstep_guard (Gj := true) (Bj := y351) rfl rfl rfl (gtrue (d0 rfl)) rfl (fun hG hB => ph_callP (vs := []) en19 rfl ((by have z := (gop_def c354 (gandT hG hB)); exact c_gauntletlaw04_lives  z)) (fun _ _ h => h))
          · intro l R5q hle ha hd
            obtain ⟨d0, d1, _⟩ := hd
            have f141 : l 141 = (.bool y351) := d0 rfl
            have f142g : phG (true && (y351 == true)) (phX (.bool (y353.getD default))) (l 142) R5q := d1 rfl
            exact gstep_plain rfl rfl rfl (ph_val (val_and f141 (fun hb => (show l 142 = (.bool (y353.getD default)) from f142g.1 (gandT rfl hb))) rfl))
          · intro l R6q hle ha hd
            obtain ⟨d0, d1, d2, d3, d4, d5, d6, d7, _⟩ := hd
            have f143 : l 143 = (.bool (y351 && (y353.getD default))) := d0 rfl
            exact gstep_plain rfl rfl rfl (ph_val (val_assign f143))
          intro v357 h358
          intro v359 h360
          intro v361 h362
          intro v363 h364
          intro v365 h366
          intro v367 h368
          intro v369 h370
          obtain rfl := Eq.symm h358
          obtain rfl := Eq.symm h360
          obtain rfl := Eq.symm h362
          obtain rfl := Eq.symm h364
          obtain rfl := Eq.symm h368
          obtain rfl := Eq.symm h370
          refine wo_nil ?_
          refine wg_ret ?_
          obtain rfl := Option.some.inj hd0
          refine body_end (D := []) (J := [box b21 [(.int .i64 y15.inputs), (.int .i64 y15.outputs), v23] 27, box b31 [(.int .i64 y25.inputs), (.int .i64 y25.outputs), v33] 27]) (rs := [.tmp 6]) (vs := [(.bool (y351 && (y353.getD default)))]) ((((((((((((le4.trans le8).trans le12).trans le20).trans le30).trans le40).trans le79).trans le94).trans le105).trans le134).trans le208).trans le302).trans le356) rfl rfl ⟨rfl, trivial⟩ ?_
          exact ⟨rfl, rfl⟩
end GV
end Go.Proofs.Ytohjnbajgbdhhaa
