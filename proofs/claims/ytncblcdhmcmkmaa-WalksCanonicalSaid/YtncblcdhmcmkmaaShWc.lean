/- The walks of the functions; printed. -/
import Derived.Test.YtncblcdhmcmkmaaShWb
import Derived.Test.YtncblcdhmcmkmaaRows
namespace Go.Proofs.Ytncblcdhmcmkmaa
namespace GV
open Go.IntWalk
set_option linter.unusedVariables false
set_option linter.unusedSimpArgs false
set_option maxRecDepth 100000
set_option maxHeartbeats 20000000
theorem en47 : Enters Try.prog 47 := enters_of Try.func47 rfl (by kernel_rfl)
theorem c_walks_Trim {N : Nat} {R : RH} {m : Mach} {v_m : Value} (h_m : VRep (kMach false false) R v_m m) {r : Mach × (List Int) × Int} (hd0 : walks_Trim N m = some r) : CallP Try.prog 23 #[v_m] R (fun v R' => ∃ u0 u1, v = .tuple #[u0, u1, (.int .i64 r.2.2)] ∧ VRep (kMach true true) R' u0 r.1 ∧ VRep (tSl true (tInt .i64)) R' u1 r.2.1) := by
  refine callP_of_wg (args := [v_m]) Try.func23 rfl rfl fun A => ?_
  rw [walks_Trim] at hd0
  refine wg_seq ?_
  refine wg_region ?_
  refine wo_boxR (T := (kMach false false)) rfl rfl h_m fun v1 R3 le4 h2 => ?_
  refine wo_alloc rfl za27 fun b5 => ?_
  refine wo_v rfl (val_assign (v := (.slice none 0 0)) rfl) ?_
  refine wo_v rfl (val_assign (v := (.int .i64 0)) rfl) ?_
  refine wo_nil ?_
  refine wg_seq ?_
  refine wg_region ?_
  refine wo_loadR rfl ty27 rfl h2 fun v7 h8 => ?_
  replace hd0 := bd_some hd0; obtain ⟨y9, c10, hd0⟩ := hd0
  refine wo_callP rfl en17 rfl (c_walks_Reach h8 c10) fun v11 R13 le14 h12 => ?_
  obtain ⟨v15, rfl, h16⟩ := h12
  refine wo_v rfl (val_move (v := (.tuple #[v15, (.int .i64 y9.2)])) rfl) ?_
  refine wo_v rfl (val_extract rfl rfl) ?_
  refine wo_v rfl (val_extract rfl rfl) ?_
  refine wo_v rfl (val_assign (v := v15) rfl) ?_
  refine wo_v rfl (val_assign (v := (.int .i64 y9.2)) rfl) ?_
  refine wo_nil ?_
  refine wg_seq ?_
  refine wg_seq ?_
  refine wg_region ?_
  refine wo_v rfl (val_move (v := (.int .i64 y9.2)) rfl) ?_
  refine wo_v rfl (val_neq rfl rfl) ?_
  refine wo_nil ?_
  refine wg_cond rfl (fun e17 => ?_) (fun e17 => ?_)
  · replace hd0 := sel_t e17 hd0; clear e17
    refine wg_seq ?_
    refine wg_region ?_
    refine wo_v rfl (val_buildL (ps := []) (v := (.agg #[(.int .i64 0), (.int .i64 0), (.slice none 0 0)])) rfl (fun w => by kernel_rfl)) ?_
    refine wo_v rfl (val_move (v := (.int .i64 y9.2)) rfl) ?_
    refine wo_store (i := 0) (vs := [(.int .i64 0), (.int .i64 0), (.slice none 0 0)]) sz27 rfl rfl rfl rfl rfl rfl (one_cons rfl (one_cons rfl (one_cons rfl one_nil))) ?_
    refine wo_v rfl (val_assign (v := (.slice none 0 0)) rfl) ?_
    refine wo_v rfl (val_assign (v := (.int .i64 y9.2)) rfl) ?_
    refine wo_nil ?_
    refine wg_ret ?_
    obtain rfl := Option.some.inj hd0
    refine body_end (D := []) (J := [box b5 [(.int .i64 0), (.int .i64 0), (.slice none 0 0)] 27]) (rs := [.cell 2 27, .tmp 3, .tmp 4]) (vs := [(.agg #[(.int .i64 0), (.int .i64 0), (.slice none 0 0)]), (.slice none 0 0), (.int .i64 y9.2)]) (le4.trans le14) rfl rfl ⟨⟨_, rfl, fun w hh => run_cellA (i := 0) hh rfl rfl ag27 sz27 rfl rfl⟩, rfl, rfl, trivial⟩ ?_
    exact ⟨rfl, ⟨(.agg #[(.int .i64 0), (.int .i64 0), (.slice none 0 0)]), (.slice none 0 0), rfl, (⟨_, ⟨_, _, rfl, rfl, ⟨_, _, rfl, rfl, (rep_one rfl sl_nil)⟩⟩, rfl⟩ : VRep (kMach true true) _ _ (⟨0, 0, []⟩ : Mach)), sl_nil⟩⟩
  · replace hd0 := sel_f e17 hd0; clear e17
    refine wg_skip ?_
    refine wg_seq ?_
    refine wg_region ?_
    refine wo_loadR rfl ty27 rfl (h2.mono le14) fun v18 h19 => ?_
    refine wo_v rfl (val_move (v := v15) rfl) ?_
    replace hd0 := bd_some hd0; obtain ⟨y20, c21, hd0⟩ := hd0
    refine wo_callP rfl en47 rfl (c_walks_part h19 (Sub.v (B := (tSl false (tInt .i64))) (sub_sl Sub.refl (fun _ => rfl)) h16) c21) fun v22 R24 le25 h23 => ?_
    refine wo_v rfl (val_move (v := v15) rfl) ?_
    obtain ⟨v26, rfl, h27⟩ := cases_Mach h23
    refine wo_store (i := 0) (vs := [(.int .i64 y20.inputs), (.int .i64 y20.outputs), v26]) sz27 rfl rfl rfl rfl rfl rfl (one_cons rfl (one_cons rfl (one_cons (sl_one h27) one_nil))) ?_
    refine wo_v rfl (val_assign (v := v15) rfl) ?_
    refine wo_v rfl (val_assign (v := (.int .i64 0)) rfl) ?_
    refine wo_nil ?_
    refine wg_ret ?_
    obtain rfl := Option.some.inj hd0
    refine body_end (D := []) (J := [box b5 [(.int .i64 y20.inputs), (.int .i64 y20.outputs), v26] 27]) (rs := [.cell 2 27, .tmp 3, .tmp 4]) (vs := [(.agg #[(.int .i64 y20.inputs), (.int .i64 y20.outputs), v26]), v15, (.int .i64 0)]) ((le4.trans le14).trans le25) rfl rfl ⟨⟨_, rfl, fun w hh => run_cellA (i := 0) hh rfl rfl ag27 sz27 rfl rfl⟩, rfl, rfl, trivial⟩ ?_
    exact ⟨rfl, ⟨(.agg #[(.int .i64 y20.inputs), (.int .i64 y20.outputs), v26]), v15, rfl, (⟨_, ⟨_, _, rfl, rfl, ⟨_, _, rfl, rfl, (rep_one rfl h27)⟩⟩, rfl⟩ : VRep (kMach true true) _ _ (⟨y20.inputs, y20.outputs, y20.rows⟩ : Mach)), (h16.mono le25)⟩⟩
theorem en23 : Enters Try.prog 23 := enters_of Try.func23 rfl (by kernel_rfl)
theorem c_walks_Canonical {N : Nat} {R : RH} {m : Mach} {v_m : Value} (h_m : VRep (kMach false false) R v_m m) {r : Mach × Int} (hd0 : walks_Canonical N m = some r) : CallP Try.prog 28 #[v_m] R (fun v R' => ∃ u0, v = .tuple #[u0, (.int .i64 r.2)] ∧ VRep (kMach true true) R' u0 r.1) := by
  refine callP_of_wg (args := [v_m]) Try.func28 rfl rfl fun A => ?_
  rw [walks_Canonical] at hd0
  refine wg_seq ?_
  refine wg_region ?_
  refine wo_boxR (T := (kMach false false)) rfl rfl h_m fun v1 R3 le4 h2 => ?_
  refine wo_alloc rfl za27 fun b5 => ?_
  refine wo_v rfl (val_assign (v := (.int .i64 0)) rfl) ?_
  refine wo_nil ?_
  refine wg_seq ?_
  refine wg_seq ?_
  refine wg_region ?_
  refine wo_loadR rfl ty27 rfl h2 fun v7 h8 => ?_
  replace hd0 := bd_some hd0; obtain ⟨y9, c10, hd0⟩ := hd0
  refine wo_callP rfl en37 rfl (c_machines_Check h8 c10) fun v11 R13 le14 h12 => ?_
  obtain rfl := h12
  refine wo_v rfl (val_assign (v := (.int .i64 y9)) rfl) ?_
  refine wo_nil ?_
  refine wg_seq ?_
  refine wg_region ?_
  refine wo_v rfl (val_move (v := (.int .i64 y9)) rfl) ?_
  refine wo_v rfl (val_neq rfl rfl) ?_
  refine wo_nil ?_
  refine wg_cond rfl (fun e15 => ?_) (fun e15 => ?_)
  · replace hd0 := sel_t e15 hd0; clear e15
    refine wg_seq ?_
    refine wg_region ?_
    refine wo_v rfl (val_buildL (ps := []) (v := (.agg #[(.int .i64 0), (.int .i64 0), (.slice none 0 0)])) rfl (fun w => by kernel_rfl)) ?_
    refine wo_v rfl (val_move (v := (.int .i64 y9)) rfl) ?_
    refine wo_store (i := 0) (vs := [(.int .i64 0), (.int .i64 0), (.slice none 0 0)]) sz27 rfl rfl rfl rfl rfl rfl (one_cons rfl (one_cons rfl (one_cons rfl one_nil))) ?_
    refine wo_v rfl (val_assign (v := (.int .i64 y9)) rfl) ?_
    refine wo_nil ?_
    refine wg_ret ?_
    obtain rfl := Option.some.inj hd0
    refine body_end (D := []) (J := [box b5 [(.int .i64 0), (.int .i64 0), (.slice none 0 0)] 27]) (rs := [.cell 2 27, .tmp 3]) (vs := [(.agg #[(.int .i64 0), (.int .i64 0), (.slice none 0 0)]), (.int .i64 y9)]) (le4.trans le14) rfl rfl ⟨⟨_, rfl, fun w hh => run_cellA (i := 0) hh rfl rfl ag27 sz27 rfl rfl⟩, rfl, trivial⟩ ?_
    exact ⟨rfl, ⟨(.agg #[(.int .i64 0), (.int .i64 0), (.slice none 0 0)]), rfl, (⟨_, ⟨_, _, rfl, rfl, ⟨_, _, rfl, rfl, (rep_one rfl sl_nil)⟩⟩, rfl⟩ : VRep (kMach true true) _ _ (⟨0, 0, []⟩ : Mach))⟩⟩
  · replace hd0 := sel_f e15 hd0; clear e15
    refine wg_skip ?_
    refine wg_seq ?_
    replace hd0 := bd_some hd0; obtain ⟨y16, c17, hd0⟩ := hd0
    replace hd0 := bd_some hd0; obtain ⟨y18, c19, hd0⟩ := hd0
    refine wg_drawn 4 [] [phR (kMach false false) m, phR (kMach false false) m, phR (tSl false (tInt .i64)) y16, phR (kMach true true) y18] mixed (by kernel_rfl) (monoOk_of ⟨mono_r, mono_r, mono_r, mono_r, trivial⟩) ⟨?_, ?_, ?_, ?_, trivial⟩ fun R20 le21 => ?_
    · intro l R0q hle ha hd
      have a1 : l 1 = v1 := ha 1 rfl
      exact gstep_plain rfl rfl rfl (ph_loadR ty27 a1 ((h2.mono le14).mono hle))
    · intro l R1q hle ha hd
      have a1 : l 1 = v1 := ha 1 rfl
      exact gstep_plain rfl rfl rfl (ph_loadR ty27 a1 ((h2.mono le14).mono hle))
    · intro l R2q hle ha hd
      obtain ⟨d0, _⟩ := hd
      have f12 : phR (kMach false false) m (l 12) R2q := d0 rfl
      exact gstep_plain rfl rfl rfl (ph_callP (vs := [(l 12)]) en44 rfl (c_walks_reached f12 c17) (fun _ _ h => h))
    · intro l R3q hle ha hd
      obtain ⟨d0, d1, d2, _⟩ := hd
      have f11 : phR (kMach false false) m (l 11) R3q := d0 rfl
      have f13 : phR (tSl false (tInt .i64)) y16 (l 13) R3q := d1 rfl
      exact gstep_plain rfl rfl rfl (ph_callP (vs := [(l 11), (l 13)]) en47 rfl (c_walks_part f11 f13 c19) (fun _ _ h => h))
    intro v22 h23
    intro v24 h25
    intro v26 h27
    intro v28 h29
    obtain ⟨v30, rfl, h31⟩ := cases_Mach h29
    refine wo_store (i := 0) (vs := [(.int .i64 y18.inputs), (.int .i64 y18.outputs), v30]) sz27 rfl rfl rfl rfl rfl rfl (one_cons rfl (one_cons rfl (one_cons (sl_one h31) one_nil))) ?_
    refine wo_v rfl (val_assign (v := (.int .i64 0)) rfl) ?_
    refine wo_nil ?_
    refine wg_ret ?_
    obtain rfl := Option.some.inj hd0
    refine body_end (D := []) (J := [box b5 [(.int .i64 y18.inputs), (.int .i64 y18.outputs), v30] 27]) (rs := [.cell 2 27, .tmp 3]) (vs := [(.agg #[(.int .i64 y18.inputs), (.int .i64 y18.outputs), v30]), (.int .i64 0)]) ((le4.trans le14).trans le21) rfl rfl ⟨⟨_, rfl, fun w hh => run_cellA (i := 0) hh rfl rfl ag27 sz27 rfl rfl⟩, rfl, trivial⟩ ?_
    exact ⟨rfl, ⟨(.agg #[(.int .i64 y18.inputs), (.int .i64 y18.outputs), v30]), rfl, (⟨_, ⟨_, _, rfl, rfl, ⟨_, _, rfl, rfl, (rep_one rfl h31)⟩⟩, rfl⟩ : VRep (kMach true true) _ _ (⟨y18.inputs, y18.outputs, y18.rows⟩ : Mach))⟩⟩
theorem en28 : Enters Try.prog 28 := enters_of Try.func28 rfl (by kernel_rfl)
theorem c_slices_EqualFunc__api_Edge {N : Nat} {R : RH} {s1_ : (List (List Edge))} {v_s1_ : Value} (h_s1_ : VRep (tSl false (tSl false kEdge)) R v_s1_ s1_) {s2_ : (List (List Edge))} {v_s2_ : Value} (h_s2_ : VRep (tSl false (tSl false kEdge)) R v_s2_ s2_) {eq : (List Edge) → (List Edge) → Option Bool} {v_eq : Value} (h_eq : FOk2 Try.prog R v_eq (tSl false kEdge) (tSl false kEdge) tBool eq) {r : Bool} (hd0 : slices_EqualFunc__api_Edge N s1_ s2_ eq = some r) : CallP Try.prog 67 #[v_s1_, v_s2_, v_eq] R (fun v R' => v = (.bool r)) := by
  refine callP_of_wg (args := [v_s1_, v_s2_, v_eq]) Try.func67 rfl rfl fun A => ?_
  rw [slices_EqualFunc__api_Edge] at hd0
  refine wg_seq ?_
  refine wg_region ?_
  refine wo_v rfl (val_assign (v := (.bool false)) rfl) ?_
  refine wo_nil ?_
  refine wg_seq ?_
  refine wg_seq ?_
  refine wg_region ?_
  refine wo_v rfl (val_move (v := v_s1_) rfl) ?_
  refine wo_v rfl (val_lenR rfl Try.underlying25 rfl (sl_s h_s1_)) ?_
  refine wo_v rfl (val_move (v := v_s2_) rfl) ?_
  refine wo_v rfl (val_lenR rfl Try.underlying25 rfl (sl_s h_s2_)) ?_
  refine wo_v rfl (val_neq rfl rfl) ?_
  refine wo_nil ?_
  refine wg_cond rfl (fun e1 => ?_) (fun e1 => ?_)
  · replace hd0 := sel_t e1 hd0; clear e1
    refine wg_seq ?_
    refine wg_region ?_
    refine wo_v rfl (val_assign (v := (.bool false)) rfl) ?_
    refine wo_nil ?_
    refine wg_ret ?_
    obtain rfl := Option.some.inj hd0
    refine body_end (D := []) (J := []) (rs := [.tmp 6]) (vs := [(.bool false)]) (RH.le.refl _) rfl rfl ⟨rfl, trivial⟩ ?_
    exact ⟨rfl, rfl⟩
  · replace hd0 := sel_f e1 hd0; clear e1
    refine wg_skip ?_
    replace hd0 := bd_some hd0; obtain ⟨q3, hd1, hd0⟩ := hd0
    refine wg_meet (γ := Unit) true [15, 16, 17, 18, 19, 20, 21, 7, 8, 22, 23, 24, 25, 9, 26, 27, 28, 29, 30, 6, 31] (fun g => []) (fun g => [] ++ A) (fun g R => q3 = Ex.go g ∧ True) ?_ ?_
    ·
      refine wg_seq ?_
      refine wg_region ?_
      refine wo_v rfl (val_move (v := v_s1_) rfl) ?_
      refine wo_v rfl (val_lenR rfl Try.underlying25 rfl (sl_s h_s1_)) ?_
      refine wo_v rfl (val_move (v := (.int .i64 0)) rfl) ?_
      refine wo_nil ?_
      refine wg_block ?_
      refine wg_loopS (γ := Nat × Int) true [18, 19, 20, 21, 7, 8, 22, 23, 24, 25, 9, 26, 27, 28, 29, 30, 6, 31, 17] (fun g => [(17, (.int .i64 g.2))]) (fun g => [] ++ A) (fun g R => slices_EqualFunc__api_Edge_L1 N s1_ s2_ eq g.1 g.2 = some q3 ∧ True) (fun g => g.1) (N, 0) ⟨rfl, trivial⟩ ⟨[], List.Perm.refl _⟩ ⟨hd1, trivial⟩ (fun _ => rfl) ?_
      clear hd1
      rintro ⟨F6, x7⟩ j29 D30 R8 hD31 le9 ⟨hd1, _⟩
      obtain rfl := hD31 rfl
      rcases F6 with _ | F6
      · exact none_elim hd1
      replace hd1 : slices_EqualFunc__api_Edge_L1 N s1_ s2_ eq (F6 + 1) x7 = some q3 := hd1; rw [slices_EqualFunc__api_Edge_L1] at hd1
      refine wg_seq ?_
      refine wg_region ?_
      refine wo_v rfl (val_lss rfl rfl) ?_
      refine wo_nil ?_
      refine wg_seq ?_
      refine wg_cond rfl (fun e10 => ?_) (fun e10 => ?_)
      · replace hd1 := sel_t e10 hd1; clear e10
        refine wg_skip ?_
        refine wg_seq ?_
        refine wg_block ?_
        refine wg_seq ?_
        refine wg_region ?_
        refine wo_v rfl (val_move (v := (.int .i64 x7)) rfl) ?_
        have g11 := (gd_some hd1).1; replace hd1 := (gd_some hd1).2
        refine wo_indexR (i := x7.toNat) rfl sl25 rfl (sl_s (h_s1_.mono le9)) (idx_nonneg rfl g11.1) (okI_lt g11) fun v12 h13 => ?_
        refine wo_loadR rfl ty50 rfl h13 fun v14 h15 => ?_
        refine wo_v rfl (val_assign (v := (.int .i64 x7)) rfl) ?_
        refine wo_v rfl (val_assign (v := v14) rfl) ?_
        refine wo_nil ?_
        refine wg_seq ?_
        refine wg_region ?_
        refine wo_v rfl (val_move (v := v_s2_) rfl) ?_
        refine wo_v rfl (val_move (v := (.int .i64 x7)) rfl) ?_
        have g16 := (gd_some hd1).1; replace hd1 := (gd_some hd1).2
        refine wo_indexR (i := x7.toNat) rfl sl25 rfl (sl_s (h_s2_.mono le9)) (idx_nonneg rfl g16.1) (okI_lt g16) fun v17 h18 => ?_
        refine wo_loadR rfl ty50 rfl h18 fun v19 h20 => ?_
        refine wo_v rfl (val_assign (v := v19) rfl) ?_
        refine wo_nil ?_
        refine wg_seq ?_
        refine wg_region ?_
        refine wo_v rfl (val_move (v := v_eq) rfl) ?_
        refine wo_v rfl (val_move (v := v14) rfl) ?_
        refine wo_v rfl (val_move (v := v19) rfl) ?_
        replace hd1 := bd_some hd1; obtain ⟨y21, c22, hd1⟩ := hd1
        refine wo_callF rfl rfl rfl ((h_eq.mono le9) _ (RH.le.refl _) (ix s1_ x7) (ix s2_ x7) _ _ _ h15 h20 c22) fun v25 R23 le24 h26 => ?_
        obtain rfl := vrep_bool.1 h26
        refine wo_v rfl (val_not rfl) ?_
        refine wo_nil ?_
        refine wg_cond rfl (fun e27 => ?_) (fun e27 => ?_)
        · replace hd1 := sel_t e27 hd1; clear e27
          refine wg_seq ?_
          refine wg_region ?_
          refine wo_v rfl (val_assign (v := (.bool false)) rfl) ?_
          refine wo_nil ?_
          refine wg_ret ?_
          replace hd0 := on_rt hd1 hd0
          obtain rfl := Option.some.inj hd0
          refine body_end (D := []) (J := []) (rs := [.tmp 6]) (vs := [(.bool false)]) (le9.trans le24) rfl rfl ⟨rfl, trivial⟩ ?_
          exact ⟨rfl, rfl⟩
        · replace hd1 := sel_f e27 hd1; clear e27
          refine wg_skip ?_
          refine wg_region ?_
          have g28 := (gd_some hd1).1; replace hd1 := (gd_some hd1).2
          refine wo_v rfl (val_add rfl rfl g28) ?_
          refine wo_v rfl (val_move (v := (.int .i64 (x7 + 1))) rfl) ?_
          refine wo_nil ?_
          exact ⟨(fun _ => rfl), le24, (by repeat (first | exact off_self | refine off_upd rfl ?_ | refine off_setl rfl ?_ | refine off_mask_sub rfl ?_)), (F6, x7 + 1), Nat.lt_succ_self _, ⟨rfl, trivial⟩, ⟨[], List.Perm.refl _⟩, hd1, trivial⟩
      · replace hd1 := sel_f e10 hd1; clear e10
        refine wg_exit ?_
        exact ⟨(fun _ => rfl), le9, (by repeat (first | exact off_self | refine off_upd rfl ?_ | refine off_setl rfl ?_ | refine off_mask_sub rfl ?_)), (), trivial, ⟨[], List.Perm.refl _⟩, (Option.some.inj hd1).symm, trivial⟩
    ·
      rintro o2 j32 D33 R4 hD34 le5 ⟨rfl, _⟩
      obtain rfl := hD34 rfl
      replace hd0 := on_go hd0
      refine wg_seq ?_
      refine wg_region ?_
      refine wo_v rfl (val_assign (v := (.bool true)) rfl) ?_
      refine wo_nil ?_
      refine wg_ret ?_
      obtain rfl := Option.some.inj hd0
      refine body_end (D := []) (J := []) (rs := [.tmp 6]) (vs := [(.bool true)]) le5 rfl rfl ⟨rfl, trivial⟩ ?_
      exact ⟨rfl, rfl⟩
theorem en67 : Enters Try.prog 67 := enters_of Try.func67 rfl (by kernel_rfl)
theorem c_slices_Equal_api_Edge {N : Nat} {R : RH} {s1_ : (List Edge)} {v_s1_ : Value} (h_s1_ : VRep (tSl false kEdge) R v_s1_ s1_) {s2_ : (List Edge)} {v_s2_ : Value} (h_s2_ : VRep (tSl false kEdge) R v_s2_ s2_) {r : Bool} (hd0 : slices_Equal_api_Edge N s1_ s2_ = some r) : CallP Try.prog 68 #[v_s1_, v_s2_] R (fun v R' => v = (.bool r)) := by
  refine callP_of_wg (args := [v_s1_, v_s2_]) Try.func68 rfl rfl fun A => ?_
  rw [slices_Equal_api_Edge] at hd0
  refine wg_seq ?_
  refine wg_region ?_
  refine wo_v rfl (val_assign (v := (.bool false)) rfl) ?_
  refine wo_nil ?_
  refine wg_seq ?_
  refine wg_seq ?_
  refine wg_region ?_
  refine wo_v rfl (val_move (v := v_s1_) rfl) ?_
  refine wo_v rfl (val_lenR rfl Try.underlying50 rfl (sl_s h_s1_)) ?_
  refine wo_v rfl (val_move (v := v_s2_) rfl) ?_
  refine wo_v rfl (val_lenR rfl Try.underlying50 rfl (sl_s h_s2_)) ?_
  refine wo_v rfl (val_neq rfl rfl) ?_
  refine wo_nil ?_
  refine wg_cond rfl (fun e1 => ?_) (fun e1 => ?_)
  · replace hd0 := sel_t e1 hd0; clear e1
    refine wg_seq ?_
    refine wg_region ?_
    refine wo_v rfl (val_assign (v := (.bool false)) rfl) ?_
    refine wo_nil ?_
    refine wg_ret ?_
    obtain rfl := Option.some.inj hd0
    refine body_end (D := []) (J := []) (rs := [.tmp 4]) (vs := [(.bool false)]) (RH.le.refl _) rfl rfl ⟨rfl, trivial⟩ ?_
    exact ⟨rfl, rfl⟩
  · replace hd0 := sel_f e1 hd0; clear e1
    refine wg_skip ?_
    replace hd0 := bd_some hd0; obtain ⟨q3, hd1, hd0⟩ := hd0
    refine wg_meet (γ := Unit) true [11, 12, 13, 14, 15, 5, 16, 17, 18, 19, 20, 21, 22, 23, 24, 4, 25] (fun g => []) (fun g => [] ++ A) (fun g R => q3 = Ex.go g ∧ True) ?_ ?_
    ·
      refine wg_seq ?_
      refine wg_region ?_
      refine wo_v rfl (val_move (v := v_s1_) rfl) ?_
      refine wo_v rfl (val_lenR rfl Try.underlying50 rfl (sl_s h_s1_)) ?_
      refine wo_v rfl (val_move (v := (.int .i64 0)) rfl) ?_
      refine wo_nil ?_
      refine wg_block ?_
      refine wg_loopS (γ := Nat × Int) true [14, 15, 5, 16, 17, 18, 19, 20, 21, 22, 23, 24, 4, 25, 13] (fun g => [(13, (.int .i64 g.2))]) (fun g => [] ++ A) (fun g R => slices_Equal_api_Edge_L1 N s1_ s2_ g.1 g.2 = some q3 ∧ True) (fun g => g.1) (N, 0) ⟨rfl, trivial⟩ ⟨[], List.Perm.refl _⟩ ⟨hd1, trivial⟩ (fun _ => rfl) ?_
      clear hd1
      rintro ⟨F6, x7⟩ j35 D36 R8 hD37 le9 ⟨hd1, _⟩
      obtain rfl := hD37 rfl
      rcases F6 with _ | F6
      · exact none_elim hd1
      replace hd1 : slices_Equal_api_Edge_L1 N s1_ s2_ (F6 + 1) x7 = some q3 := hd1; rw [slices_Equal_api_Edge_L1] at hd1
      refine wg_seq ?_
      refine wg_region ?_
      refine wo_v rfl (val_lss rfl rfl) ?_
      refine wo_nil ?_
      refine wg_seq ?_
      refine wg_cond rfl (fun e10 => ?_) (fun e10 => ?_)
      · replace hd1 := sel_t e10 hd1; clear e10
        refine wg_skip ?_
        refine wg_seq ?_
        refine wg_block ?_
        refine wg_seq ?_
        refine wg_region ?_
        refine wo_v rfl (val_move (v := (.int .i64 x7)) rfl) ?_
        refine wo_v rfl (val_assign (v := (.int .i64 x7)) rfl) ?_
        refine wo_nil ?_
        refine wg_seq ?_
        have g11 := (gd_some hd1).1; replace hd1 := (gd_some hd1).2
        have g12 := (gd_some hd1).1; replace hd1 := (gd_some hd1).2
        refine wg_drawn 9 [] [phX v_s1_, phX (.int .i64 x7), phP kEdge (ix s1_ x7), phX (enc_Edge (ix s1_ x7)), phX v_s2_, phX (.int .i64 x7), phP kEdge (ix s2_ x7), phX (enc_Edge (ix s2_ x7)), phX (.bool (decide (¬ (((ix s1_ x7).to) = ((ix s2_ x7).to) ∧ ((ix s1_ x7).out) = ((ix s2_ x7).out)))))] mixed (by kernel_rfl) (monoOk_of ⟨mono_x, mono_x, mono_p, mono_x, mono_x, mono_x, mono_p, mono_x, mono_x, trivial⟩) ⟨?_, ?_, ?_, ?_, ?_, ?_, ?_, ?_, ?_, trivial⟩ fun R13 le14 => ?_
        · intro l R0q hle ha hd
          have a0 : l 0 = v_s1_ := ha 0 rfl
          exact gstep_plain rfl rfl rfl (ph_val (val_move a0))
        · intro l R1q hle ha hd
          have a5 : l 5 = (.int .i64 x7) := ha 5 rfl
          exact gstep_plain rfl rfl rfl (ph_val (val_move a5))
        · intro l R2q hle ha hd
          obtain ⟨d0, d1, _⟩ := hd
          have f16 : l 16 = v_s1_ := d0 rfl
          have f17 : l 17 = (.int .i64 x7) := d1 rfl
          exact gstep_plain rfl rfl rfl (ph_indexR (i := x7.toNat) sl50 f16 (sl_s ((h_s1_.mono le9).mono hle)) (idx_nonneg f17 g11.1) (okI_lt g11))
        · intro l R3q hle ha hd
          obtain ⟨d0, _⟩ := hd
          have f18 : phP kEdge (ix s1_ x7) (l 18) R3q := d0 rfl
          exact gstep_plain rfl rfl rfl (ph_exact (ph_loadR ty49 rfl f18) (fun _ _ h => vrep_Edge.1 h))
        · intro l R4q hle ha hd
          have a1 : l 1 = v_s2_ := ha 1 rfl
          exact gstep_plain rfl rfl rfl (ph_val (val_move a1))
        · intro l R5q hle ha hd
          have a5 : l 5 = (.int .i64 x7) := ha 5 rfl
          exact gstep_plain rfl rfl rfl (ph_val (val_move a5))
        · intro l R6q hle ha hd
          obtain ⟨d0, d1, _⟩ := hd
          have f20 : l 20 = v_s2_ := d0 rfl
          have f21 : l 21 = (.int .i64 x7) := d1 rfl
          exact gstep_plain rfl rfl rfl (ph_indexR (i := x7.toNat) sl50 f20 (sl_s ((h_s2_.mono le9).mono hle)) (idx_nonneg f21 g12.1) (okI_lt g12))
        · intro l R7q hle ha hd
          obtain ⟨d0, _⟩ := hd
          have f22 : phP kEdge (ix s2_ x7) (l 22) R7q := d0 rfl
          exact gstep_plain rfl rfl rfl (ph_exact (ph_loadR ty49 rfl f22) (fun _ _ h => vrep_Edge.1 h))
        · intro l R8q hle ha hd
          obtain ⟨d0, d1, _⟩ := hd
          have f19 : l 19 = (enc_Edge (ix s1_ x7)) := d0 rfl
          have f23 : l 23 = (enc_Edge (ix s2_ x7)) := d1 rfl
          exact gstep_plain rfl rfl rfl (ph_val (val_neq2 eq49 f19 f23))
        intro v15 h16
        intro v17 h18
        intro v19 h20
        intro v21 h22
        intro v23 h24
        intro v25 h26
        intro v27 h28
        intro v29 h30
        intro v31 h32
        obtain rfl := Eq.symm h16
        obtain rfl := Eq.symm h18
        obtain rfl := Eq.symm h22
        obtain rfl := Eq.symm h24
        obtain rfl := Eq.symm h26
        obtain rfl := Eq.symm h30
        obtain rfl := Eq.symm h32
        refine wo_nil ?_
        refine wg_cond rfl (fun e33 => ?_) (fun e33 => ?_)
        · replace hd1 := sel_t e33 hd1; clear e33
          refine wg_seq ?_
          refine wg_region ?_
          refine wo_v rfl (val_assign (v := (.bool false)) rfl) ?_
          refine wo_nil ?_
          refine wg_ret ?_
          replace hd0 := on_rt hd1 hd0
          obtain rfl := Option.some.inj hd0
          refine body_end (D := []) (J := []) (rs := [.tmp 4]) (vs := [(.bool false)]) (le9.trans le14) rfl rfl ⟨rfl, trivial⟩ ?_
          exact ⟨rfl, rfl⟩
        · replace hd1 := sel_f e33 hd1; clear e33
          refine wg_skip ?_
          refine wg_region ?_
          have g34 := (gd_some hd1).1; replace hd1 := (gd_some hd1).2
          refine wo_v rfl (val_add rfl rfl g34) ?_
          refine wo_v rfl (val_move (v := (.int .i64 (x7 + 1))) rfl) ?_
          refine wo_nil ?_
          exact ⟨(fun _ => rfl), le14, (by repeat (first | exact off_self | refine off_upd rfl ?_ | refine off_setl rfl ?_ | refine off_mask_sub rfl ?_)), (F6, x7 + 1), Nat.lt_succ_self _, ⟨rfl, trivial⟩, ⟨[], List.Perm.refl _⟩, hd1, trivial⟩
      · replace hd1 := sel_f e10 hd1; clear e10
        refine wg_exit ?_
        exact ⟨(fun _ => rfl), le9, (by repeat (first | exact off_self | refine off_upd rfl ?_ | refine off_setl rfl ?_ | refine off_mask_sub rfl ?_)), (), trivial, ⟨[], List.Perm.refl _⟩, (Option.some.inj hd1).symm, trivial⟩
    ·
      rintro o2 j38 D39 R4 hD40 le5 ⟨rfl, _⟩
      obtain rfl := hD40 rfl
      replace hd0 := on_go hd0
      refine wg_seq ?_
      refine wg_region ?_
      refine wo_v rfl (val_assign (v := (.bool true)) rfl) ?_
      refine wo_nil ?_
      refine wg_ret ?_
      obtain rfl := Option.some.inj hd0
      refine body_end (D := []) (J := []) (rs := [.tmp 4]) (vs := [(.bool true)]) le5 rfl rfl ⟨rfl, trivial⟩ ?_
      exact ⟨rfl, rfl⟩
theorem en68 : Enters Try.prog 68 := enters_of Try.func68 rfl (by kernel_rfl)
theorem c_machines_Same {N : Nat} {R : RH} {a : Mach} {v_a : Value} (h_a : VRep (kMach false false) R v_a a) {b : Mach} {v_b : Value} (h_b : VRep (kMach false false) R v_b b) {r : Bool} (hd0 : machines_Same N a b = some r) : CallP Try.prog 50 #[v_a, v_b] R (fun v R' => v = (.bool r)) := by
  refine callP_of_wg (args := [v_a, v_b]) Try.func50 rfl rfl fun A => ?_
  rw [machines_Same] at hd0
  refine wg_seq ?_
  refine wg_region ?_
  refine wo_boxR (T := (kMach false false)) rfl rfl h_a fun v1 R3 le4 h2 => ?_
  refine wo_boxR (T := (kMach false false)) rfl rfl (h_b.mono le4) fun v5 R7 le8 h6 => ?_
  refine wo_v rfl (val_assign (v := (.bool false)) rfl) ?_
  refine wo_nil ?_
  refine wg_seq ?_
  replace hd0 := bd_some hd0; obtain ⟨y9, c10, hd0⟩ := hd0
  replace hd0 := bd_some hd0; obtain ⟨y11, c12, hd0⟩ := hd0
  replace hd0 := bd_some hd0; obtain ⟨y13, c14, hd0⟩ := hd0
  refine wg_guarded 30 [] [phR (kMach false false) a, phX (.int .i64 y9), phX (.bool (decide (y9 = 0))), phX (.bool (decide (y9 = 0))), phG (true && ((decide (y9 = 0)) == true)) (phR (kMach false false) b), phG (true && ((decide (y9 = 0)) == true)) (phX (.int .i64 (y11.getD default))), phG (true && ((decide (y9 = 0)) == true)) (phX (.bool (decide ((y11.getD default) = 0)))), phX (.bool ((decide (y9 = 0)) && (decide ((y11.getD default) = 0)))), phX (.bool ((decide (y9 = 0)) && (decide ((y11.getD default) = 0)))), phG (true && (((decide (y9 = 0)) && (decide ((y11.getD default) = 0))) == true)) (phP (tInt .i64) a.inputs), phG (true && (((decide (y9 = 0)) && (decide ((y11.getD default) = 0))) == true)) (phX (.int .i64 a.inputs)), phG (true && (((decide (y9 = 0)) && (decide ((y11.getD default) = 0))) == true)) (phP (tInt .i64) b.inputs), phG (true && (((decide (y9 = 0)) && (decide ((y11.getD default) = 0))) == true)) (phX (.int .i64 b.inputs)), phG (true && (((decide (y9 = 0)) && (decide ((y11.getD default) = 0))) == true)) (phX (.bool (decide (a.inputs = b.inputs)))), phX (.bool (((decide (y9 = 0)) && (decide ((y11.getD default) = 0))) && (decide (a.inputs = b.inputs)))), phX (.bool (((decide (y9 = 0)) && (decide ((y11.getD default) = 0))) && (decide (a.inputs = b.inputs)))), phG (true && ((((decide (y9 = 0)) && (decide ((y11.getD default) = 0))) && (decide (a.inputs = b.inputs))) == true)) (phP (tInt .i64) a.outputs), phG (true && ((((decide (y9 = 0)) && (decide ((y11.getD default) = 0))) && (decide (a.inputs = b.inputs))) == true)) (phX (.int .i64 a.outputs)), phG (true && ((((decide (y9 = 0)) && (decide ((y11.getD default) = 0))) && (decide (a.inputs = b.inputs))) == true)) (phP (tInt .i64) b.outputs), phG (true && ((((decide (y9 = 0)) && (decide ((y11.getD default) = 0))) && (decide (a.inputs = b.inputs))) == true)) (phX (.int .i64 b.outputs)), phG (true && ((((decide (y9 = 0)) && (decide ((y11.getD default) = 0))) && (decide (a.inputs = b.inputs))) == true)) (phX (.bool (decide (a.outputs = b.outputs)))), phX (.bool ((((decide (y9 = 0)) && (decide ((y11.getD default) = 0))) && (decide (a.inputs = b.inputs))) && (decide (a.outputs = b.outputs)))), phX (.bool ((((decide (y9 = 0)) && (decide ((y11.getD default) = 0))) && (decide (a.inputs = b.inputs))) && (decide (a.outputs = b.outputs)))), phG (true && (((((decide (y9 = 0)) && (decide ((y11.getD default) = 0))) && (decide (a.inputs = b.inputs))) && (decide (a.outputs = b.outputs))) == true)) (phP (tSl false (tSl false kEdge)) a.rows), phG (true && (((((decide (y9 = 0)) && (decide ((y11.getD default) = 0))) && (decide (a.inputs = b.inputs))) && (decide (a.outputs = b.outputs))) == true)) (phR (tSl false (tSl false kEdge)) a.rows), phG (true && (((((decide (y9 = 0)) && (decide ((y11.getD default) = 0))) && (decide (a.inputs = b.inputs))) && (decide (a.outputs = b.outputs))) == true)) (phP (tSl false (tSl false kEdge)) b.rows), phG (true && (((((decide (y9 = 0)) && (decide ((y11.getD default) = 0))) && (decide (a.inputs = b.inputs))) && (decide (a.outputs = b.outputs))) == true)) (phR (tSl false (tSl false kEdge)) b.rows), phG (true && (((((decide (y9 = 0)) && (decide ((y11.getD default) = 0))) && (decide (a.inputs = b.inputs))) && (decide (a.outputs = b.outputs))) == true)) (phX (.bool (y13.getD default))), phX (.bool (((((decide (y9 = 0)) && (decide ((y11.getD default) = 0))) && (decide (a.inputs = b.inputs))) && (decide (a.outputs = b.outputs))) && (y13.getD default))), phX (.bool (((((decide (y9 = 0)) && (decide ((y11.getD default) = 0))) && (decide (a.inputs = b.inputs))) && (decide (a.outputs = b.outputs))) && (y13.getD default)))] (by kernel_rfl) (by kernel_rfl) (monoOk_of ⟨mono_r, mono_x, mono_x, mono_x, (mono_g mono_r), (mono_g mono_x), (mono_g mono_x), mono_x, mono_x, (mono_g mono_p), (mono_g mono_x), (mono_g mono_p), (mono_g mono_x), (mono_g mono_x), mono_x, mono_x, (mono_g mono_p), (mono_g mono_x), (mono_g mono_p), (mono_g mono_x), (mono_g mono_x), mono_x, mono_x, (mono_g mono_p), (mono_g mono_r), (mono_g mono_p), (mono_g mono_r), (mono_g mono_x), mono_x, mono_x, trivial⟩) ⟨?_, ?_, ?_, ?_, ?_, ?_, ?_, ?_, ?_, ?_, ?_, ?_, ?_, ?_, ?_, ?_, ?_, ?_, ?_, ?_, ?_, ?_, ?_, ?_, ?_, ?_, ?_, ?_, ?_, ?_, trivial⟩ fun R15 le16 => ?_
  · intro l R0q hle ha hd
    have a2 : l 2 = v1 := ha 2 rfl
    exact gstep_plain rfl rfl rfl (ph_loadR ty27 a2 ((h2.mono le8).mono hle))
  · intro l R1q hle ha hd
    obtain ⟨d0, _⟩ := hd
    have f5 : phR (kMach false false) a (l 5) R1q := d0 rfl
    exact gstep_plain rfl rfl rfl (ph_callP (vs := [(l 5)]) en37 rfl (c_machines_Check f5 c10) (fun _ _ h => h))
  · intro l R2q hle ha hd
    obtain ⟨d0, _⟩ := hd
    have f6 : l 6 = (.int .i64 y9) := d0 rfl
    exact gstep_plain rfl rfl rfl (ph_val (val_eql f6 rfl))
  · intro l R3q hle ha hd
    obtain ⟨d0, d1, _⟩ := hd
    have f7 : l 7 = (.bool (decide (y9 = 0))) := d0 rfl
    exact gstep_plain rfl rfl rfl (ph_val (val_move f7))
  · intro l R4q hle ha hd
    obtain ⟨d0, _⟩ := hd
    have a3 : l 3 = v5 := ha 3 rfl
    exact gstep_guard (Gj := true) (Bj := decide (y9 = 0)) rfl rfl rfl (gtrue (d0 rfl)) rfl (fun hG hB => ph_loadR ty27 a3 (h6.mono hle))
  · intro l R5q hle ha hd
    obtain ⟨d0, d1, d2, _⟩ := hd
    have f9g : phG (true && ((decide (y9 = 0)) == true)) (phR (kMach false false) b) (l 9) R5q := d0 rfl
    exact gstep_guard (Gj := true) (Bj := decide (y9 = 0)) rfl rfl rfl (gtrue (d1 rfl)) rfl (fun hG hB => ph_callP (vs := [(l 9)]) en37 rfl ((by have z := (gop_def c12 (gandT hG hB)); exact c_machines_Check (f9g.1 (gandT rfl hB)) z)) (fun _ _ h => h))
  · intro l R6q hle ha hd
    obtain ⟨d0, d1, _⟩ := hd
    have f10g : phG (true && ((decide (y9 = 0)) == true)) (phX (.int .i64 (y11.getD default))) (l 10) R6q := d0 rfl
    exact gstep_guard (Gj := true) (Bj := decide (y9 = 0)) rfl rfl rfl (gtrue (d1 rfl)) rfl (fun hG hB => ph_val (val_eql (show l 10 = (.int .i64 (y11.getD default)) from f10g.1 (gandT rfl hB)) rfl))
  · intro l R7q hle ha hd
    obtain ⟨d0, d1, _⟩ := hd
    have f8 : l 8 = (.bool (decide (y9 = 0))) := d0 rfl
    have f11g : phG (true && ((decide (y9 = 0)) == true)) (phX (.bool (decide ((y11.getD default) = 0)))) (l 11) R7q := d1 rfl
    exact gstep_plain rfl rfl rfl (ph_val (val_and f8 (fun hb => (show l 11 = (.bool (decide ((y11.getD default) = 0))) from f11g.1 (gandT rfl hb))) rfl))
  · intro l R8q hle ha hd
    obtain ⟨d0, d1, _⟩ := hd
    have f12 : l 12 = (.bool ((decide (y9 = 0)) && (decide ((y11.getD default) = 0)))) := d0 rfl
    exact gstep_plain rfl rfl rfl (ph_val (val_move f12))
  · intro l R9q hle ha hd
    obtain ⟨d0, _⟩ := hd
    have a2 : l 2 = v1 := ha 2 rfl
    exact gstep_guard (Gj := true) (Bj := (decide (y9 = 0)) && (decide ((y11.getD default) = 0))) rfl rfl rfl (gtrue (d0 rfl)) rfl (fun hG hB => ph_fieldR fd27_0 pt_Mach0 a2 ((h2.mono le8).mono hle))
  · intro l R10q hle ha hd
    obtain ⟨d0, d1, _⟩ := hd
    have f14g : phG (true && (((decide (y9 = 0)) && (decide ((y11.getD default) = 0))) == true)) (phP (tInt .i64) a.inputs) (l 14) R10q := d0 rfl
    exact gstep_guard (Gj := true) (Bj := (decide (y9 = 0)) && (decide ((y11.getD default) = 0))) rfl rfl rfl (gtrue (d1 rfl)) rfl (fun hG hB => ph_exact (ph_loadR ty3 rfl (f14g.1 (gandT rfl hB))) (fun _ _ h => vrep_int.1 h))
  · intro l R11q hle ha hd
    obtain ⟨d0, _⟩ := hd
    have a3 : l 3 = v5 := ha 3 rfl
    exact gstep_guard (Gj := true) (Bj := (decide (y9 = 0)) && (decide ((y11.getD default) = 0))) rfl rfl rfl (gtrue (d0 rfl)) rfl (fun hG hB => ph_fieldR fd27_0 pt_Mach0 a3 (h6.mono hle))
  · intro l R12q hle ha hd
    obtain ⟨d0, d1, _⟩ := hd
    have f16g : phG (true && (((decide (y9 = 0)) && (decide ((y11.getD default) = 0))) == true)) (phP (tInt .i64) b.inputs) (l 16) R12q := d0 rfl
    exact gstep_guard (Gj := true) (Bj := (decide (y9 = 0)) && (decide ((y11.getD default) = 0))) rfl rfl rfl (gtrue (d1 rfl)) rfl (fun hG hB => ph_exact (ph_loadR ty3 rfl (f16g.1 (gandT rfl hB))) (fun _ _ h => vrep_int.1 h))
  · intro l R13q hle ha hd
    obtain ⟨d0, d1, d2, _⟩ := hd
    have f15g : phG (true && (((decide (y9 = 0)) && (decide ((y11.getD default) = 0))) == true)) (phX (.int .i64 a.inputs)) (l 15) R13q := d0 rfl
    have f17g : phG (true && (((decide (y9 = 0)) && (decide ((y11.getD default) = 0))) == true)) (phX (.int .i64 b.inputs)) (l 17) R13q := d1 rfl
    exact gstep_guard (Gj := true) (Bj := (decide (y9 = 0)) && (decide ((y11.getD default) = 0))) rfl rfl rfl (gtrue (d2 rfl)) rfl (fun hG hB => ph_val (val_eql (show l 15 = (.int .i64 a.inputs) from f15g.1 (gandT rfl hB)) (show l 17 = (.int .i64 b.inputs) from f17g.1 (gandT rfl hB))))
  · intro l R14q hle ha hd
    obtain ⟨d0, d1, _⟩ := hd
    have f13 : l 13 = (.bool ((decide (y9 = 0)) && (decide ((y11.getD default) = 0)))) := d0 rfl
    have f18g : phG (true && (((decide (y9 = 0)) && (decide ((y11.getD default) = 0))) == true)) (phX (.bool (decide (a.inputs = b.inputs)))) (l 18) R14q := d1 rfl
    exact gstep_plain rfl rfl rfl (ph_val (val_and f13 (fun hb => (show l 18 = (.bool (decide (a.inputs = b.inputs))) from f18g.1 (gandT rfl hb))) rfl))
  · intro l R15q hle ha hd
    obtain ⟨d0, d1, _⟩ := hd
    have f19 : l 19 = (.bool (((decide (y9 = 0)) && (decide ((y11.getD default) = 0))) && (decide (a.inputs = b.inputs)))) := d0 rfl
    exact gstep_plain rfl rfl rfl (ph_val (val_move f19))
  · intro l R16q hle ha hd
    obtain ⟨d0, _⟩ := hd
    have a2 : l 2 = v1 := ha 2 rfl
    exact gstep_guard (Gj := true) (Bj := ((decide (y9 = 0)) && (decide ((y11.getD default) = 0))) && (decide (a.inputs = b.inputs))) rfl rfl rfl (gtrue (d0 rfl)) rfl (fun hG hB => ph_fieldR fd27_1 pt_Mach1 a2 ((h2.mono le8).mono hle))
  · intro l R17q hle ha hd
    obtain ⟨d0, d1, _⟩ := hd
    have f21g : phG (true && ((((decide (y9 = 0)) && (decide ((y11.getD default) = 0))) && (decide (a.inputs = b.inputs))) == true)) (phP (tInt .i64) a.outputs) (l 21) R17q := d0 rfl
    exact gstep_guard (Gj := true) (Bj := ((decide (y9 = 0)) && (decide ((y11.getD default) = 0))) && (decide (a.inputs = b.inputs))) rfl rfl rfl (gtrue (d1 rfl)) rfl (fun hG hB => ph_exact (ph_loadR ty3 rfl (f21g.1 (gandT rfl hB))) (fun _ _ h => vrep_int.1 h))
  · intro l R18q hle ha hd
    obtain ⟨d0, _⟩ := hd
    have a3 : l 3 = v5 := ha 3 rfl
    exact gstep_guard (Gj := true) (Bj := ((decide (y9 = 0)) && (decide ((y11.getD default) = 0))) && (decide (a.inputs = b.inputs))) rfl rfl rfl (gtrue (d0 rfl)) rfl (fun hG hB => ph_fieldR fd27_1 pt_Mach1 a3 (h6.mono hle))
  · intro l R19q hle ha hd
    obtain ⟨d0, d1, _⟩ := hd
    have f23g : phG (true && ((((decide (y9 = 0)) && (decide ((y11.getD default) = 0))) && (decide (a.inputs = b.inputs))) == true)) (phP (tInt .i64) b.outputs) (l 23) R19q := d0 rfl
    exact gstep_guard (Gj := true) (Bj := ((decide (y9 = 0)) && (decide ((y11.getD default) = 0))) && (decide (a.inputs = b.inputs))) rfl rfl rfl (gtrue (d1 rfl)) rfl (fun hG hB => ph_exact (ph_loadR ty3 rfl (f23g.1 (gandT rfl hB))) (fun _ _ h => vrep_int.1 h))
  · intro l R20q hle ha hd
    obtain ⟨d0, d1, d2, _⟩ := hd
    have f22g : phG (true && ((((decide (y9 = 0)) && (decide ((y11.getD default) = 0))) && (decide (a.inputs = b.inputs))) == true)) (phX (.int .i64 a.outputs)) (l 22) R20q := d0 rfl
    have f24g : phG (true && ((((decide (y9 = 0)) && (decide ((y11.getD default) = 0))) && (decide (a.inputs = b.inputs))) == true)) (phX (.int .i64 b.outputs)) (l 24) R20q := d1 rfl
    exact gstep_guard (Gj := true) (Bj := ((decide (y9 = 0)) && (decide ((y11.getD default) = 0))) && (decide (a.inputs = b.inputs))) rfl rfl rfl (gtrue (d2 rfl)) rfl (fun hG hB => ph_val (val_eql (show l 22 = (.int .i64 a.outputs) from f22g.1 (gandT rfl hB)) (show l 24 = (.int .i64 b.outputs) from f24g.1 (gandT rfl hB))))
  · intro l R21q hle ha hd
    obtain ⟨d0, d1, _⟩ := hd
    have f20 : l 20 = (.bool (((decide (y9 = 0)) && (decide ((y11.getD default) = 0))) && (decide (a.inputs = b.inputs)))) := d0 rfl
    have f25g : phG (true && ((((decide (y9 = 0)) && (decide ((y11.getD default) = 0))) && (decide (a.inputs = b.inputs))) == true)) (phX (.bool (decide (a.outputs = b.outputs)))) (l 25) R21q := d1 rfl
    exact gstep_plain rfl rfl rfl (ph_val (val_and f20 (fun hb => (show l 25 = (.bool (decide (a.outputs = b.outputs))) from f25g.1 (gandT rfl hb))) rfl))
  · intro l R22q hle ha hd
    obtain ⟨d0, d1, _⟩ := hd
    have f26 : l 26 = (.bool ((((decide (y9 = 0)) && (decide ((y11.getD default) = 0))) && (decide (a.inputs = b.inputs))) && (decide (a.outputs = b.outputs)))) := d0 rfl
    exact gstep_plain rfl rfl rfl (ph_val (val_move f26))
  · intro l R23q hle ha hd
    obtain ⟨d0, _⟩ := hd
    have a2 : l 2 = v1 := ha 2 rfl
    exact gstep_guard (Gj := true) (Bj := (((decide (y9 = 0)) && (decide ((y11.getD default) = 0))) && (decide (a.inputs = b.inputs))) && (decide (a.outputs = b.outputs))) rfl rfl rfl (gtrue (d0 rfl)) rfl (fun hG hB => ph_fieldR fd27_2 pt_Mach2 a2 ((h2.mono le8).mono hle))
  · intro l R24q hle ha hd
    obtain ⟨d0, d1, _⟩ := hd
    have f28g : phG (true && (((((decide (y9 = 0)) && (decide ((y11.getD default) = 0))) && (decide (a.inputs = b.inputs))) && (decide (a.outputs = b.outputs))) == true)) (phP (tSl false (tSl false kEdge)) a.rows) (l 28) R24q := d0 rfl
    exact gstep_guard (Gj := true) (Bj := (((decide (y9 = 0)) && (decide ((y11.getD default) = 0))) && (decide (a.inputs = b.inputs))) && (decide (a.outputs = b.outputs))) rfl rfl rfl (gtrue (d1 rfl)) rfl (fun hG hB => ph_loadR ty25 rfl (f28g.1 (gandT rfl hB)))
  · intro l R25q hle ha hd
    obtain ⟨d0, _⟩ := hd
    have a3 : l 3 = v5 := ha 3 rfl
    exact gstep_guard (Gj := true) (Bj := (((decide (y9 = 0)) && (decide ((y11.getD default) = 0))) && (decide (a.inputs = b.inputs))) && (decide (a.outputs = b.outputs))) rfl rfl rfl (gtrue (d0 rfl)) rfl (fun hG hB => ph_fieldR fd27_2 pt_Mach2 a3 (h6.mono hle))
  · intro l R26q hle ha hd
    obtain ⟨d0, d1, _⟩ := hd
    have f30g : phG (true && (((((decide (y9 = 0)) && (decide ((y11.getD default) = 0))) && (decide (a.inputs = b.inputs))) && (decide (a.outputs = b.outputs))) == true)) (phP (tSl false (tSl false kEdge)) b.rows) (l 30) R26q := d0 rfl
    exact gstep_guard (Gj := true) (Bj := (((decide (y9 = 0)) && (decide ((y11.getD default) = 0))) && (decide (a.inputs = b.inputs))) && (decide (a.outputs = b.outputs))) rfl rfl rfl (gtrue (d1 rfl)) rfl (fun hG hB => ph_loadR ty25 rfl (f30g.1 (gandT rfl hB)))
  · intro l R27q hle ha hd
    obtain ⟨d0, d1, d2, d3, _⟩ := hd
    have f29g : phG (true && (((((decide (y9 = 0)) && (decide ((y11.getD default) = 0))) && (decide (a.inputs = b.inputs))) && (decide (a.outputs = b.outputs))) == true)) (phR (tSl false (tSl false kEdge)) a.rows) (l 29) R27q := d0 rfl
    have f31g : phG (true && (((((decide (y9 = 0)) && (decide ((y11.getD default) = 0))) && (decide (a.inputs = b.inputs))) && (decide (a.outputs = b.outputs))) == true)) (phR (tSl false (tSl false kEdge)) b.rows) (l 31) R27q := d1 rfl
    exact gstep_guard (Gj := true) (Bj := (((decide (y9 = 0)) && (decide ((y11.getD default) = 0))) && (decide (a.inputs = b.inputs))) && (decide (a.outputs = b.outputs))) rfl rfl rfl (gtrue (d2 rfl)) rfl (fun hG hB => ph_callP (vs := [(l 29), (l 31), (.func (.func 68) #[] #[])]) en67 rfl ((by have z := (gop_def c14 (gandT hG hB)); exact c_slices_EqualFunc__api_Edge (f29g.1 (gandT rfl hB)) (f31g.1 (gandT rfl hB)) ((fok2_of (cs := []) en68 fun R1 hq z0 z1 u0 u1 y k0 k1 hy => by exact CallP.mono (c_slices_Equal_api_Edge k0 k1 hy) fun v R2 _ hv => vrep_bool.2 hv).mono hle) z)) (fun _ _ h => h))
  · intro l R28q hle ha hd
    obtain ⟨d0, d1, _⟩ := hd
    have f27 : l 27 = (.bool ((((decide (y9 = 0)) && (decide ((y11.getD default) = 0))) && (decide (a.inputs = b.inputs))) && (decide (a.outputs = b.outputs)))) := d0 rfl
    have f32g : phG (true && (((((decide (y9 = 0)) && (decide ((y11.getD default) = 0))) && (decide (a.inputs = b.inputs))) && (decide (a.outputs = b.outputs))) == true)) (phX (.bool (y13.getD default))) (l 32) R28q := d1 rfl
    exact gstep_plain rfl rfl rfl (ph_val (val_and f27 (fun hb => (show l 32 = (.bool (y13.getD default)) from f32g.1 (gandT rfl hb))) rfl))
  · intro l R29q hle ha hd
    obtain ⟨d0, d1, d2, d3, d4, d5, d6, d7, d8, d9, d10, d11, d12, d13, d14, d15, d16, d17, d18, d19, d20, d21, d22, d23, d24, d25, d26, d27, d28, d29, d30, _⟩ := hd
    have f33 : l 33 = (.bool (((((decide (y9 = 0)) && (decide ((y11.getD default) = 0))) && (decide (a.inputs = b.inputs))) && (decide (a.outputs = b.outputs))) && (y13.getD default))) := d0 rfl
    exact gstep_plain rfl rfl rfl (ph_val (val_assign f33))
  intro v17 h18
  intro v19 h20
  intro v21 h22
  intro v23 h24
  intro v25 h26
  intro v27 h28
  intro v29 h30
  intro v31 h32
  intro v33 h34
  intro v35 h36
  intro v37 h38
  intro v39 h40
  intro v41 h42
  intro v43 h44
  intro v45 h46
  intro v47 h48
  intro v49 h50
  intro v51 h52
  intro v53 h54
  intro v55 h56
  intro v57 h58
  intro v59 h60
  intro v61 h62
  intro v63 h64
  intro v65 h66
  intro v67 h68
  intro v69 h70
  intro v71 h72
  intro v73 h74
  intro v75 h76
  obtain rfl := Eq.symm h20
  obtain rfl := Eq.symm h22
  obtain rfl := Eq.symm h24
  obtain rfl := Eq.symm h32
  obtain rfl := Eq.symm h34
  obtain rfl := Eq.symm h46
  obtain rfl := Eq.symm h48
  obtain rfl := Eq.symm h60
  obtain rfl := Eq.symm h62
  obtain rfl := Eq.symm h74
  obtain rfl := Eq.symm h76
  refine wo_nil ?_
  refine wg_ret ?_
  obtain rfl := Option.some.inj hd0
  refine body_end (D := []) (J := []) (rs := [.tmp 4]) (vs := [(.bool (((((decide (y9 = 0)) && (decide ((y11.getD default) = 0))) && (decide (a.inputs = b.inputs))) && (decide (a.outputs = b.outputs))) && (y13.getD default)))]) ((le4.trans le8).trans le16) rfl rfl ⟨rfl, trivial⟩ ?_
  exact ⟨rfl, rfl⟩
theorem en50 : Enters Try.prog 50 := enters_of Try.func50 rfl (by kernel_rfl)
theorem c_walks_IsCanonical {N : Nat} {R : RH} {m : Mach} {v_m : Value} (h_m : VRep (kMach false false) R v_m m) {r : Bool × Int} (hd0 : walks_IsCanonical N m = some r) : CallP Try.prog 30 #[v_m] R (fun v R' => v = .tuple #[(.bool r.1), (.int .i64 r.2)]) := by
  refine callP_of_wg (args := [v_m]) Try.func30 rfl rfl fun A => ?_
  rw [walks_IsCanonical] at hd0
  refine wg_seq ?_
  refine wg_region ?_
  refine wo_boxR (T := (kMach false false)) rfl rfl h_m fun v1 R3 le4 h2 => ?_
  refine wo_v rfl (val_assign (v := (.bool false)) rfl) ?_
  refine wo_v rfl (val_assign (v := (.int .i64 0)) rfl) ?_
  refine wo_nil ?_
  refine wg_seq ?_
  refine wg_region ?_
  refine wo_loadR rfl ty27 rfl h2 fun v5 h6 => ?_
  replace hd0 := bd_some hd0; obtain ⟨y7, c8, hd0⟩ := hd0
  refine wo_callP rfl en28 rfl (c_walks_Canonical h6 c8) fun v9 R11 le12 h10 => ?_
  obtain ⟨v13, rfl, h14⟩ := h10
  refine wo_v rfl (val_move (v := (.tuple #[v13, (.int .i64 y7.2)])) rfl) ?_
  refine wo_v rfl (val_extract rfl rfl) ?_
  refine wo_v rfl (val_extract rfl rfl) ?_
  refine wo_alloc rfl za27 fun b15 => ?_
  obtain ⟨v17, rfl, h18⟩ := cases_Mach h14
  refine wo_store (i := 0) (vs := [(.int .i64 y7.1.inputs), (.int .i64 y7.1.outputs), v17]) sz27 rfl rfl rfl rfl rfl rfl (one_cons rfl (one_cons rfl (one_cons (sl_one h18) one_nil))) ?_
  refine wo_v rfl (val_assign (v := (.int .i64 y7.2)) rfl) ?_
  refine wo_nil ?_
  refine wg_seq ?_
  replace hd0 := bd_some hd0; obtain ⟨y19, c20, hd0⟩ := hd0
  refine wg_guarded 10 [] [phX (.int .i64 y7.2), phX (.bool (decide (y7.2 = 0))), phX (.bool (decide (y7.2 = 0))), phG (true && ((decide (y7.2 = 0)) == true)) (phX (.agg #[(.int .i64 y7.1.inputs), (.int .i64 y7.1.outputs), v17])), phG (true && ((decide (y7.2 = 0)) == true)) (phR (kMach false false) m), phG (true && ((decide (y7.2 = 0)) == true)) (phX (.bool (y19.getD default))), phX (.bool ((decide (y7.2 = 0)) && (y19.getD default))), phX (.int .i64 y7.2), phX (.bool ((decide (y7.2 = 0)) && (y19.getD default))), phX (.int .i64 y7.2)] (by kernel_rfl) (by kernel_rfl) (monoOk_of ⟨mono_x, mono_x, mono_x, (mono_g mono_x), (mono_g mono_r), (mono_g mono_x), mono_x, mono_x, mono_x, mono_x, trivial⟩) ⟨?_, ?_, ?_, ?_, ?_, ?_, ?_, ?_, ?_, ?_, trivial⟩ fun R21 le22 => ?_
  · intro l R0q hle ha hd
    have a5 : l 5 = (.int .i64 y7.2) := ha 5 rfl
    exact gstep_plain rfl rfl rfl (ph_val (val_move a5))
  · intro l R1q hle ha hd
    obtain ⟨d0, _⟩ := hd
    have f11 : l 11 = (.int .i64 y7.2) := d0 rfl
    exact gstep_plain rfl rfl rfl (ph_val (val_eql f11 rfl))
  · intro l R2q hle ha hd
    obtain ⟨d0, _⟩ := hd
    have f12 : l 12 = (.bool (decide (y7.2 = 0))) := d0 rfl
    exact gstep_plain rfl rfl rfl (ph_val (val_move f12))
  · intro l R3q hle ha hd
    obtain ⟨d0, _⟩ := hd
    have a4 : l 4 = (.pointer (some ⟨b15, 0, none⟩)) := ha 4 rfl
    exact gstep_guard (Gj := true) (Bj := decide (y7.2 = 0)) rfl rfl rfl (gtrue (d0 rfl)) rfl (fun hG hB => ph_val (val_loadBA (i := 0) ag27 sz27 a4 rfl rfl rfl))
  · intro l R4q hle ha hd
    obtain ⟨d0, _⟩ := hd
    have a1 : l 1 = v1 := ha 1 rfl
    exact gstep_guard (Gj := true) (Bj := decide (y7.2 = 0)) rfl rfl rfl (gtrue (d0 rfl)) rfl (fun hG hB => ph_loadR ty27 a1 ((h2.mono le12).mono hle))
  · intro l R5q hle ha hd
    obtain ⟨d0, d1, d2, d3, _⟩ := hd
    have f14g : phG (true && ((decide (y7.2 = 0)) == true)) (phX (.agg #[(.int .i64 y7.1.inputs), (.int .i64 y7.1.outputs), v17])) (l 14) R5q := d0 rfl
    have f15g : phG (true && ((decide (y7.2 = 0)) == true)) (phR (kMach false false) m) (l 15) R5q := d1 rfl
    exact gstep_guard (Gj := true) (Bj := decide (y7.2 = 0)) rfl rfl rfl (gtrue (d2 rfl)) rfl (fun hG hB => ph_callP (vs := [(.agg #[(.int .i64 y7.1.inputs), (.int .i64 y7.1.outputs), v17]), (l 15)]) en50 (by simp only [List.map, ev, (show l 14 = (.agg #[(.int .i64 y7.1.inputs), (.int .i64 y7.1.outputs), v17]) from f14g.1 (gandT rfl hB))] <;> rfl) ((by have z := (gop_def c20 (gandT hG hB)); exact c_machines_Same (⟨_, ⟨_, _, rfl, rfl, ⟨_, _, rfl, rfl, (rep_one rfl (Sub.v (B := (tSl false (tSl false kEdge))) (sub_sl (sub_sl Sub.refl (fun _ => rfl)) (fun _ => rfl)) (h18.mono hle)))⟩⟩, rfl⟩ : VRep (kMach false false) _ _ (⟨y7.1.inputs, y7.1.outputs, y7.1.rows⟩ : Mach)) (f15g.1 (gandT rfl hB)) z)) (fun _ _ h => h))
  · intro l R6q hle ha hd
    obtain ⟨d0, d1, _⟩ := hd
    have f13 : l 13 = (.bool (decide (y7.2 = 0))) := d0 rfl
    have f16g : phG (true && ((decide (y7.2 = 0)) == true)) (phX (.bool (y19.getD default))) (l 16) R6q := d1 rfl
    exact gstep_plain rfl rfl rfl (ph_val (val_and f13 (fun hb => (show l 16 = (.bool (y19.getD default)) from f16g.1 (gandT rfl hb))) rfl))
  · intro l R7q hle ha hd
    obtain ⟨d0, _⟩ := hd
    have a5 : l 5 = (.int .i64 y7.2) := ha 5 rfl
    exact gstep_plain rfl rfl rfl (ph_val (val_move a5))
  · intro l R8q hle ha hd
    obtain ⟨d0, d1, d2, d3, d4, d5, d6, d7, d8, d9, _⟩ := hd
    have f17 : l 17 = (.bool ((decide (y7.2 = 0)) && (y19.getD default))) := d0 rfl
    exact gstep_plain rfl rfl rfl (ph_val (val_assign f17))
  · intro l R9q hle ha hd
    obtain ⟨d0, d1, d2, d3, d4, d5, d6, d7, d8, d9, d10, _⟩ := hd
    have f18 : l 18 = (.int .i64 y7.2) := d0 rfl
    exact gstep_plain rfl rfl rfl (ph_val (val_assign f18))
  intro v23 h24
  intro v25 h26
  intro v27 h28
  intro v29 h30
  intro v31 h32
  intro v33 h34
  intro v35 h36
  intro v37 h38
  intro v39 h40
  intro v41 h42
  obtain rfl := Eq.symm h24
  obtain rfl := Eq.symm h26
  obtain rfl := Eq.symm h28
  obtain rfl := Eq.symm h36
  obtain rfl := Eq.symm h38
  obtain rfl := Eq.symm h40
  obtain rfl := Eq.symm h42
  refine wo_nil ?_
  refine wg_ret ?_
  obtain rfl := Option.some.inj hd0
  refine body_end (D := []) (J := [box b15 [(.int .i64 y7.1.inputs), (.int .i64 y7.1.outputs), v17] 27]) (rs := [.tmp 2, .tmp 3]) (vs := [(.bool ((decide (y7.2 = 0)) && (y19.getD default))), (.int .i64 y7.2)]) ((le4.trans le12).trans le22) rfl rfl ⟨rfl, rfl, trivial⟩ ?_
  exact ⟨rfl, rfl⟩
theorem en30 : Enters Try.prog 30 := enters_of Try.func30 rfl (by kernel_rfl)
theorem ty31 : TyOk Try.prog 31 (tInt .i64) := by
  obtain ⟨i, hi, hs⟩ : ∃ i, Try.prog.info? 31 = some i ∧ i.size = 1 := info_size (by kernel_rfl)
  exact tyOk_of Try.underlying31 hi rfl hs
theorem sl110 : SlOk Try.prog 110 31 (tInt .i64) := ⟨Try.underlying110, ty31⟩
theorem c_cmp_Or_api_Errno {N : Nat} {R : RH} {vals : (List Int)} {v_vals : Value} (h_vals : VRep (tSl false (tInt .i64)) R v_vals vals) {r : Int} (hd0 : cmp_Or_api_Errno N vals = some r) : CallP Try.prog 51 #[v_vals] R (fun v R' => v = (.int .i64 r)) := by
  refine callP_of_wg (args := [v_vals]) Try.func51 rfl rfl fun A => ?_
  rw [cmp_Or_api_Errno] at hd0
  refine wg_seq ?_
  refine wg_region ?_
  refine wo_v rfl (val_assign (v := (.int .i64 0)) rfl) ?_
  refine wo_nil ?_
  refine wg_seq ?_
  refine wg_region ?_
  refine wo_v rfl (val_assign (v := (.int .i64 0)) rfl) ?_
  refine wo_nil ?_
  replace hd0 := bd_some hd0; obtain ⟨q2, hd1, hd0⟩ := hd0
  refine wg_meet (γ := Unit) true [6, 7, 8, 9, 10, 11, 5, 12, 13, 14, 15, 2, 16] (fun g => []) (fun g => [] ++ A) (fun g R => q2 = Ex.go g ∧ True) ?_ ?_
  ·
    refine wg_seq ?_
    refine wg_region ?_
    refine wo_v rfl (val_move (v := v_vals) rfl) ?_
    refine wo_v rfl (val_lenR rfl Try.underlying110 rfl (sl_s h_vals)) ?_
    refine wo_v rfl (val_move (v := (.int .i64 0)) rfl) ?_
    refine wo_nil ?_
    refine wg_block ?_
    refine wg_loopS (γ := Nat × Int) true [9, 10, 11, 5, 12, 13, 14, 15, 2, 16, 8] (fun g => [(8, (.int .i64 g.2))]) (fun g => [] ++ A) (fun g R => cmp_Or_api_Errno_L1 N vals g.1 g.2 = some q2 ∧ True) (fun g => g.1) (N, 0) ⟨rfl, trivial⟩ ⟨[], List.Perm.refl _⟩ ⟨hd1, trivial⟩ (fun _ => rfl) ?_
    clear hd1
    rintro ⟨F5, x6⟩ j17 D18 R7 hD19 le8 ⟨hd1, _⟩
    obtain rfl := hD19 rfl
    rcases F5 with _ | F5
    · exact none_elim hd1
    replace hd1 : cmp_Or_api_Errno_L1 N vals (F5 + 1) x6 = some q2 := hd1; rw [cmp_Or_api_Errno_L1] at hd1
    refine wg_seq ?_
    refine wg_region ?_
    refine wo_v rfl (val_lss rfl rfl) ?_
    refine wo_nil ?_
    refine wg_seq ?_
    refine wg_cond rfl (fun e9 => ?_) (fun e9 => ?_)
    · replace hd1 := sel_t e9 hd1; clear e9
      refine wg_skip ?_
      refine wg_seq ?_
      refine wg_block ?_
      refine wg_seq ?_
      refine wg_region ?_
      have g10 := (gd_some hd1).1; replace hd1 := (gd_some hd1).2
      refine wo_indexR (i := x6.toNat) rfl sl110 rfl (sl_s (h_vals.mono le8)) (idx_nonneg rfl g10.1) (okI_lt g10) fun v11 h12 => ?_
      refine wo_loadR rfl ty31 rfl h12 fun v13 h14 => ?_
      obtain rfl := vrep_int.1 h14
      refine wo_v rfl (val_assign (v := (.int .i64 (ix vals x6))) rfl) ?_
      refine wo_nil ?_
      refine wg_seq ?_
      refine wg_region ?_
      refine wo_v rfl (val_move (v := (.int .i64 (ix vals x6))) rfl) ?_
      refine wo_v rfl (val_move (v := (.int .i64 0)) rfl) ?_
      refine wo_v rfl (val_neq rfl rfl) ?_
      refine wo_nil ?_
      refine wg_cond rfl (fun e15 => ?_) (fun e15 => ?_)
      · replace hd1 := sel_t e15 hd1; clear e15
        refine wg_seq ?_
        refine wg_region ?_
        refine wo_v rfl (val_move (v := (.int .i64 (ix vals x6))) rfl) ?_
        refine wo_v rfl (val_assign (v := (.int .i64 (ix vals x6))) rfl) ?_
        refine wo_nil ?_
        refine wg_ret ?_
        replace hd0 := on_rt hd1 hd0
        obtain rfl := Option.some.inj hd0
        refine body_end (D := []) (J := []) (rs := [.tmp 2]) (vs := [(.int .i64 (ix vals x6))]) le8 rfl rfl ⟨rfl, trivial⟩ ?_
        exact ⟨rfl, rfl⟩
      · replace hd1 := sel_f e15 hd1; clear e15
        refine wg_skip ?_
        refine wg_region ?_
        have g16 := (gd_some hd1).1; replace hd1 := (gd_some hd1).2
        refine wo_v rfl (val_add rfl rfl g16) ?_
        refine wo_v rfl (val_move (v := (.int .i64 (x6 + 1))) rfl) ?_
        refine wo_nil ?_
        exact ⟨(fun _ => rfl), (RH.le.refl _), (by repeat (first | exact off_self | refine off_upd rfl ?_ | refine off_setl rfl ?_ | refine off_mask_sub rfl ?_)), (F5, x6 + 1), Nat.lt_succ_self _, ⟨rfl, trivial⟩, ⟨[], List.Perm.refl _⟩, hd1, trivial⟩
    · replace hd1 := sel_f e9 hd1; clear e9
      refine wg_exit ?_
      exact ⟨(fun _ => rfl), le8, (by repeat (first | exact off_self | refine off_upd rfl ?_ | refine off_setl rfl ?_ | refine off_mask_sub rfl ?_)), (), trivial, ⟨[], List.Perm.refl _⟩, (Option.some.inj hd1).symm, trivial⟩
  ·
    rintro o1 j20 D21 R3 hD22 le4 ⟨rfl, _⟩
    obtain rfl := hD22 rfl
    replace hd0 := on_go hd0
    refine wg_seq ?_
    refine wg_region ?_
    refine wo_v rfl (val_move (v := (.int .i64 0)) rfl) ?_
    refine wo_v rfl (val_assign (v := (.int .i64 0)) rfl) ?_
    refine wo_nil ?_
    refine wg_ret ?_
    obtain rfl := Option.some.inj hd0
    refine body_end (D := []) (J := []) (rs := [.tmp 2]) (vs := [(.int .i64 0)]) le4 rfl rfl ⟨rfl, trivial⟩ ?_
    exact ⟨rfl, rfl⟩
theorem zo31 : ZeroOk Try.prog 31 (tInt .i64) (0 : Int) 8 := by
  obtain ⟨i, zv, hi, hz, hs, hb, hv⟩ := info_zero (P := Try.prog) (e := 31) (zv := (.int .i64 0)) (k := 1) (b := 8) (by kernel_rfl)
  exact ⟨i, zv, hi, hz, hs, hb, fun R => by subst hv; exact rfl⟩
theorem en51 : Enters Try.prog 51 := enters_of Try.func51 rfl (by kernel_rfl)
theorem c_math_bits_Mul {N : Nat} {R : RH} {x y : Int} {r : Int × Int} (hd0 : math_bits_Mul N x y = some r) : CallP Try.prog 69 #[.int .u64 x, .int .u64 y] R (fun v R' => v = .tuple #[(.int .u64 r.1), (.int .u64 r.2)]) := by
  rw [math_bits_Mul] at hd0
  obtain ⟨h0, hd0⟩ := gd_some hd0
  obtain rfl := Option.some.inj hd0
  exact callP_mul Try.lays212 h0
theorem en69 : Enters Try.prog 69 := enters_of Try.func69 rfl (by kernel_rfl)
theorem iz3 : (Try.prog.info? 3).map (·.size) = some 1 := by kernel_rfl
theorem en52 : Enters Try.prog 52 := enters_of Try.func52 rfl (by kernel_rfl)
theorem c_slices_Repeat_int_o {N : Nat} {R : RH} {x : (List Int)} {v_x : Value} (h_x : VRep (tSl false (tInt .i64)) R v_x x) {count : Int} {r : (List Int)} (hd0 : slices_Repeat_int_o N x count = some r) : CallG Try.prog 52 #[v_x, (.int .i64 count)] R [] (fun v R' O' => ∃ u0_0 g0_0, v = u0_0 ∧ O' = [g0_0] ∧ ORep (tInt .i64) R' g0_0 u0_0 r) := by
  refine callG_of_wg (args := [v_x, (.int .i64 count)]) Try.func52 rfl rfl fun A => ?_
  rw [slices_Repeat_int_o] at hd0
  refine wg_seq ?_
  refine wg_region ?_
  refine wo_v rfl (val_assign (v := (.slice none 0 0)) rfl) ?_
  refine wo_nil ?_
  refine wg_seq ?_
  refine wg_seq ?_
  refine wg_region ?_
  refine wo_v rfl (val_move (v := (.int .i64 count)) rfl) ?_
  refine wo_v rfl (val_lss rfl rfl) ?_
  refine wo_nil ?_
  refine wg_cond rfl (fun e1 => ?_) (fun e1 => ?_)
  · replace hd0 := sel_t e1 hd0; exact none_elim hd0
  · replace hd0 := sel_f e1 hd0; clear e1
    refine wg_skip ?_
    refine wg_seq ?_
    refine wg_region ?_
    refine wo_v rfl (val_move (v := v_x) rfl) ?_
    refine wo_v rfl (val_lenR rfl Try.underlying36 rfl (sl_s h_x)) ?_
    refine wo_v rfl (val_convII Try.underlying3 Try.underlying111 rfl) ?_
    refine wo_v rfl (val_move (v := (.int .i64 count)) rfl) ?_
    refine wo_v rfl (val_convII Try.underlying3 Try.underlying111 rfl) ?_
    replace hd0 := bd_some hd0; obtain ⟨y2, c3, hd0⟩ := hd0
    refine wo_callP rfl en69 rfl (c_math_bits_Mul  c3) fun v4 R6 le7 h5 => ?_
    obtain rfl := h5
    refine wo_v rfl (val_move (v := (.tuple #[(.int .u64 y2.1), (.int .u64 y2.2)])) rfl) ?_
    refine wo_v rfl (val_extract rfl rfl) ?_
    refine wo_v rfl (val_extract rfl rfl) ?_
    refine wo_v rfl (val_assign (v := (.int .u64 y2.1)) rfl) ?_
    refine wo_v rfl (val_assign (v := (.int .u64 y2.2)) rfl) ?_
    refine wo_nil ?_
    refine wg_seq ?_
    refine wg_seq ?_
    refine wg_guarded 6 [] [phX (.int .u64 y2.1), phX (.bool (decide (0 < y2.1))), phX (.bool (decide (0 < y2.1))), phG (true && ((decide (0 < y2.1)) == false)) (phX (.int .u64 y2.2)), phG (true && ((decide (0 < y2.1)) == false)) (phX (.bool (decide (9223372036854775807 < y2.2)))), phX (.bool ((decide (0 < y2.1)) || (decide (9223372036854775807 < y2.2))))] (by kernel_rfl) (by kernel_rfl) (monoOk_of ⟨mono_x, mono_x, mono_x, (mono_g mono_x), (mono_g mono_x), mono_x, trivial⟩) ⟨?_, ?_, ?_, ?_, ?_, ?_, trivial⟩ fun R8 le9 => ?_
    · intro l R0q hle ha hd
      have a5 : l 5 = (.int .u64 y2.1) := ha 5 rfl
      exact gstep_plain rfl rfl rfl (ph_val (val_move a5))
    · intro l R1q hle ha hd
      obtain ⟨d0, _⟩ := hd
      have f21 : l 21 = (.int .u64 y2.1) := d0 rfl
      exact gstep_plain rfl rfl rfl (ph_val (val_gtr f21 rfl))
    · intro l R2q hle ha hd
      obtain ⟨d0, _⟩ := hd
      have f22 : l 22 = (.bool (decide (0 < y2.1))) := d0 rfl
      exact gstep_plain rfl rfl rfl (ph_val (val_move f22))
    · intro l R3q hle ha hd
      obtain ⟨d0, _⟩ := hd
      have a6 : l 6 = (.int .u64 y2.2) := ha 6 rfl
      exact gstep_guard (Gj := true) (Bj := decide (0 < y2.1)) rfl rfl rfl (gtrue (d0 rfl)) rfl (fun hG hB => ph_val (val_move a6))
    · intro l R4q hle ha hd
      obtain ⟨d0, d1, _⟩ := hd
      have f24g : phG (true && ((decide (0 < y2.1)) == false)) (phX (.int .u64 y2.2)) (l 24) R4q := d0 rfl
      exact gstep_guard (Gj := true) (Bj := decide (0 < y2.1)) rfl rfl rfl (gtrue (d1 rfl)) rfl (fun hG hB => ph_val (val_gtr (show l 24 = (.int .u64 y2.2) from f24g.1 (gandT rfl hB)) rfl))
    · intro l R5q hle ha hd
      obtain ⟨d0, d1, _⟩ := hd
      have f23 : l 23 = (.bool (decide (0 < y2.1))) := d0 rfl
      have f25g : phG (true && ((decide (0 < y2.1)) == false)) (phX (.bool (decide (9223372036854775807 < y2.2)))) (l 25) R5q := d1 rfl
      exact gstep_plain rfl rfl rfl (ph_val (val_or f23 rfl (fun hb => (show l 25 = (.bool (decide (9223372036854775807 < y2.2))) from f25g.1 (gandT rfl hb)))))
    intro v10 h11
    intro v12 h13
    intro v14 h15
    intro v16 h17
    intro v18 h19
    intro v20 h21
    obtain rfl := Eq.symm h11
    obtain rfl := Eq.symm h13
    obtain rfl := Eq.symm h15
    obtain rfl := Eq.symm h21
    refine wo_nil ?_
    refine wg_cond rfl (fun e22 => ?_) (fun e22 => ?_)
    · replace hd0 := sel_t e22 hd0; exact none_elim hd0
    · replace hd0 := sel_f e22 hd0; clear e22
      refine wg_skip ?_
      refine wg_seq ?_
      refine wg_region ?_
      refine wo_v rfl (val_move (v := (.int .u64 y2.2)) rfl) ?_
      have g23 := (gd_some hd0).1; replace hd0 := (gd_some hd0).2
      refine wo_v rfl (val_conv64 Try.underlying111 Try.underlying3 rfl g23) ?_
      have g28 := (gd_some hd0).1; replace hd0 := (gd_some hd0).2
      refine wo_make (T := (tInt .i64)) (m := y2.2.toNat) (c := y2.2.toNat) rfl Try.underlying36 zo3 (idx_nonneg rfl g28.1) (idx_nonneg rfl g28.1) (Nat.le_refl _) (okM_b g28) (okM_n g28) fun v24 f25 cap26 h27 => ?_
      refine wo_v rfl (val_assign (v := v24) rfl) ?_
      refine wo_nil ?_
      refine wg_seq ?_
      refine wg_region ?_
      refine wo_v rfl (val_move (v := v24) rfl) ?_
      refine wo_v rfl (val_move (v := v_x) rfl) ?_
      refine wo_turn (Oc := [f25]) (Or := [] ++ A) rfl (List.Perm.refl _) (eff_copyR rfl Try.underlying36 iz3 h27 (sl_s (h_x.mono (le7.trans le9))) rfl rfl) ?_
      rintro v32 R35 Oc34 le36 ⟨rfl, f30, rfl, rfl, h31⟩
      refine wo_v rfl (val_assign (v := (.int .i64 (↑(min x.length (mk y2.2 (0 : Int)).length) : Int))) rfl) ?_
      refine wo_nil ?_
      replace hd0 := bd_some hd0; obtain ⟨o37, hd1, hd0⟩ := hd0
      refine wg_meet (γ := (List Int) × Frag) true [34, 35, 36, 37, 38, 39, 40, 41, 42, 43, 44, 45, 46, 8] (fun g => []) (fun g => [g.2] ++ A) (fun g R => o37 = g.1 ∧ ORep (tInt .i64) R g.2 v24 g.1 ∧ True) ?_ ?_
      ·
        refine wg_block ?_
        refine wg_loopS (γ := Nat × Int × (List Int) × Frag) true [34, 35, 36, 37, 38, 39, 40, 41, 42, 43, 44, 45, 46, 8] (fun g => [(8, (.int .i64 g.2.1))]) (fun g => [g.2.2.2] ++ A) (fun g R => slices_Repeat_int_o_L1 N g.1 g.2.1 g.2.2.1 = some o37 ∧ ORep (tInt .i64) R g.2.2.2 v24 g.2.2.1 ∧ True) (fun g => g.1) (N, (↑(min x.length (mk y2.2 (0 : Int)).length) : Int), (copyL (mk y2.2 (0 : Int)) 0 (x.take (min x.length (mk y2.2 (0 : Int)).length))), f30) ⟨rfl, trivial⟩ ⟨[], List.Perm.refl _⟩ ⟨hd1, h31, trivial⟩ (fun _ => rfl) ?_
        clear hd1
        rintro ⟨F42, x43, x44, f47⟩ j79 D80 R45 hD81 le46 ⟨hd1, h48, _⟩
        obtain rfl := hD81 rfl
        rcases F42 with _ | F42
        · exact none_elim hd1
        replace hd1 : slices_Repeat_int_o_L1 N (F42 + 1) x43 x44 = some o37 := hd1; rw [slices_Repeat_int_o_L1] at hd1
        refine wg_seq ?_
        refine wg_seq ?_
        refine wg_region ?_
        refine wo_v rfl (val_move (v := (.int .i64 x43)) rfl) ?_
        refine wo_v rfl (val_move (v := v24) rfl) ?_
        refine wo_v rfl (val_lenO rfl Try.underlying36 rfl h48) ?_
        refine wo_v rfl (val_lss rfl rfl) ?_
        refine wo_nil ?_
        refine wg_cond rfl (fun e49 => ?_) (fun e49 => ?_)
        · replace hd1 := sel_t e49 hd1; clear e49
          refine wg_skip ?_
          refine wg_block ?_
          have g50 := (gd_some hd1).1; replace hd1 := (gd_some hd1).2
          have g51 := (gd_some hd1).1; replace hd1 := (gd_some hd1).2
          have g52 := (gd_some hd1).1; replace hd1 := (gd_some hd1).2
          refine wg_free [7] [(fun es => phX (.int .i64 x43)), (fun es => phX v24), (fun es => phX (.int .i64 x43)), (fun es => phX (subV 1 v24 x43.toNat x44.length)), (fun es => phX v24), (fun es => phX (.int .i64 x43)), (fun es => phX (subV 1 v24 0 x43.toNat)), (fun es => phX (.int .i64 (↑(min (x43.toNat - 0) (x44.length - x43.toNat)) : Int))), (fun es => phX (.int .i64 (x43 + (↑(min (x43.toNat - 0) (x44.length - x43.toNat)) : Int)))), (fun es => phX (.int .i64 (x43 + (↑(min (x43.toNat - 0) (x44.length - x43.toNat)) : Int))))] (fun fl es R O => (fl = [false] ∧ O.Perm ([f47] ++ A) ∧ True) ∨ (fl = [true] ∧ ∃ (f_o29 : Frag), O.Perm ([f_o29] ++ A) ∧ ORep (tInt .i64) R f_o29 v24 (copyL x44 x43.toNat ((x44.drop 0).take (min (x43.toNat - 0) (x44.length - x43.toNat)))) ∧ True)) mixed (by kernel_rfl) ⟨(monoE_of mono_x), (monoE_of mono_x), (monoE_of mono_x), (monoE_of mono_x), (monoE_of mono_x), (monoE_of mono_x), (monoE_of mono_x), (fun _ _ _ _ _ h => h), (monoE_of mono_x), (monoE_of mono_x), trivial⟩ (by
              rintro fl es R R' O hle (⟨rfl, hp, _⟩ | ⟨rfl, f_o29, hp, h_o29, _⟩)
              · exact (.inl ⟨rfl, hp, trivial⟩)
              · exact (.inr ⟨rfl, f_o29, hp, (h_o29.mono hle), trivial⟩)) ⟨(fun _ _ _ _ _ h => h), (fun _ _ _ _ _ h => h), (fun _ _ _ _ _ h => h), (fun _ _ _ _ _ h => h), (fun _ _ _ _ _ h => h), (fun _ _ _ _ _ h => h), (fun _ _ _ _ _ h => h), (fun _ _ _ _ _ h => h), (fun _ _ _ _ _ h => h), (fun _ _ _ _ _ h => h), trivial⟩ (fun es => .inl ⟨rfl, (List.Perm.refl _), trivial⟩) ⟨?_, ?_, ?_, ?_, ?_, ?_, ?_, ?_, ?_, ?_, trivial⟩ fun R53 le54 => ?_
          · intro l R0q fl O hle ha hd hk hW
            have a8 : l 8 = (.int .i64 x43) := ha 8 (by kernel_rfl)
            exact ph_val (val_move a8)
          · intro l R1q fl O hle ha hd hk hW
            have a7 : l 7 = v24 := ha 7 rfl
            exact ph_val (val_move a7)
          · intro l R2q fl O hle ha hd hk hW
            have a8 : l 8 = (.int .i64 x43) := ha 8 (by kernel_rfl)
            exact ph_val (val_move a8)
          · intro l R3q fl O hle ha hd hk hW
            obtain ⟨d0, d1, _⟩ := hd
            have f39 : l 39 = v24 := d0 rfl
            have f40 : l 40 = (.int .i64 x43) := d1 rfl
            exact ph_val (val_subV (lo := x43.toNat) (hi := x44.length) sl36 f39 (h48.mono hle) (.inr ⟨_, congrArg some (idx_nonneg f40 g50.1)⟩) (.inl ⟨rfl, rfl, rfl⟩) (okS_1 g50) (okS_2 g50))
          · intro l R4q fl O hle ha hd hk hW
            have a7 : l 7 = v24 := ha 7 rfl
            exact ph_val (val_move a7)
          · intro l R5q fl O hle ha hd hk hW
            have a8 : l 8 = (.int .i64 x43) := ha 8 (by kernel_rfl)
            exact ph_val (val_move a8)
          · intro l R6q fl O hle ha hd hk hW
            obtain ⟨d0, d1, _⟩ := hd
            have f42 : l 42 = v24 := d0 rfl
            have f43 : l 43 = (.int .i64 x43) := d1 rfl
            exact ph_val (val_subV (lo := 0) (hi := x43.toNat) sl36 f42 (h48.mono hle) (.inl ⟨rfl, rfl⟩) (.inr ⟨_, congrArg some (idx_nonneg f43 (okS_0 g51))⟩) (okS_1 g51) (okS_2 g51))
          · intro l R7q fl O hle ha hd hk hf hW
            obtain ⟨d0, d1, _⟩ := hd
            have f41 : l 41 = (subV 1 v24 x43.toNat x44.length) := d0 rfl
            have f44 : l 44 = (subV 1 v24 0 x43.toNat) := d1 rfl
            rcases hW with ⟨rfl, hp, _⟩ | ⟨rfl, f_o29, hp, h_o29, _⟩
            · refine eff_perm hp ?_
              refine eff_perm (O1 := [f47] ++ ([] ++ A)) (List.Perm.refl _) ?_
              refine Eff.mono (eff_copyA (lo1 := x43.toNat) (hi1 := x44.length) (lo2 := 0) (hi2 := x43.toNat) rfl Try.underlying36 iz3 (h48.mono hle) (okS_1 g50) (okS_2 g50) (okS_1 g51) (okS_2 g51) f41 f44) ?_
              rintro v R' O' hle' ⟨_, rfl, rfl, f, rfl, rfl, h⟩
              exact ⟨rfl, .inr ⟨rfl, f, (List.Perm.refl _), h, trivial⟩⟩
            · cases hf
          · intro l R8q fl O hle ha hd hk hW
            obtain ⟨d0, d1, _⟩ := hd
            have f38 : l 38 = (.int .i64 x43) := d0 rfl
            have f45 : l 45 = (.int .i64 (↑(min (x43.toNat - 0) (x44.length - x43.toNat)) : Int)) := d1 rfl
            exact ph_val (val_add f38 f45 g52)
          · intro l R9q fl O hle ha hd hk hW
            obtain ⟨d0, d1, d2, d3, d4, d5, d6, d7, d8, d9, d10, _⟩ := hd
            have f46 : l 46 = (.int .i64 (x43 + (↑(min (x43.toNat - 0) (x44.length - x43.toNat)) : Int))) := d0 rfl
            exact ph_val (val_assign f46)
          intro v55
          intro v56
          intro v57
          intro v58
          intro v59
          intro v60
          intro v61
          intro v62
          intro v63
          intro v64
          intro h65
          intro h66
          intro h67
          intro h68
          intro h69
          intro h70
          intro h71
          intro h72
          intro h73
          intro h74
          rintro OO75 (⟨e, _⟩ | ⟨_, f76, hp, h77, _⟩)
          · cases e
          refine ⟨[], _, hp, ?_⟩
          replace h77 : ORep (tInt .i64) R53 f76 v24 (copyL x44 x43.toNat ((x44.drop 0).take (min (x43.toNat - 0) (x44.length - x43.toNat)))) := h77
          obtain rfl := Eq.symm h65
          obtain rfl := Eq.symm h66
          obtain rfl := Eq.symm h67
          obtain rfl := Eq.symm h69
          obtain rfl := Eq.symm h70
          obtain rfl := Eq.symm h73
          obtain rfl := Eq.symm h74
          refine wo_nil ?_
          exact ⟨(fun _ => rfl), le54, (by repeat (first | exact off_self | refine off_upd rfl ?_ | refine off_setl rfl ?_ | refine off_mask_sub rfl ?_)), (F42, x43 + (↑(min (x43.toNat - 0) (x44.length - x43.toNat)) : Int), (copyL x44 x43.toNat ((x44.drop 0).take (min (x43.toNat - 0) (x44.length - x43.toNat)))), f76), Nat.lt_succ_self _, ⟨rfl, trivial⟩, ⟨[], List.Perm.refl _⟩, hd1, h77, trivial⟩
        · replace hd1 := sel_f e49 hd1; clear e49
          refine wg_exit ?_
          exact ⟨(fun _ => rfl), le46, (by repeat (first | exact off_self | refine off_upd rfl ?_ | refine off_setl rfl ?_ | refine off_mask_sub rfl ?_)), (x44, f47), trivial, ⟨[], List.Perm.refl _⟩, (Option.some.inj hd1).symm, h48, trivial⟩
      ·
        rintro ⟨o37, f40⟩ j82 D83 R38 hD84 le39 ⟨rfl, h41, _⟩
        obtain rfl := hD84 rfl
        refine wg_seq ?_
        refine wg_region ?_
        refine wo_v rfl (val_move (v := v24) rfl) ?_
        refine wo_v rfl (val_assign (v := v24) rfl) ?_
        refine wo_nil ?_
        refine wg_ret ?_
        obtain rfl := Option.some.inj hd0
        refine body_endG (D := []) (J := []) (O' := [f40]) (rs := [.tmp 4]) (vs := [v24]) ((le7.trans le9).trans le39) ((pk 0 rfl (List.Perm.refl _))) rfl ⟨rfl, trivial⟩ ?_
        exact ⟨v24, f40, rfl, rfl, h41⟩
theorem c_walks_Isomorphic {N : Nat} {R : RH} {a : Mach} {v_a : Value} (h_a : VRep (kMach false false) R v_a a) {b : Mach} {v_b : Value} (h_b : VRep (kMach false false) R v_b b) {r : (List Int) × Bool × Int} (hd0 : walks_Isomorphic N a b = some r) : CallP Try.prog 32 #[v_a, v_b] R (fun v R' => ∃ u0, v = .tuple #[u0, (.bool r.2.1), (.int .i64 r.2.2)] ∧ VRep (tSl true (tInt .i64)) R' u0 r.1) := by
  refine callP_of_wg (args := [v_a, v_b]) Try.func32 rfl rfl fun A => ?_
  rw [walks_Isomorphic] at hd0
  refine wg_seq ?_
  refine wg_region ?_
  refine wo_boxR (T := (kMach false false)) rfl rfl h_a fun v1 R3 le4 h2 => ?_
  refine wo_boxR (T := (kMach false false)) rfl rfl (h_b.mono le4) fun v5 R7 le8 h6 => ?_
  refine wo_v rfl (val_assign (v := (.slice none 0 0)) rfl) ?_
  refine wo_v rfl (val_assign (v := (.bool false)) rfl) ?_
  refine wo_v rfl (val_assign (v := (.int .i64 0)) rfl) ?_
  refine wo_nil ?_
  refine wg_seq ?_
  refine wg_seq ?_
  replace hd0 := bd_some hd0; obtain ⟨y9, c10, hd0⟩ := hd0
  replace hd0 := bd_some hd0; obtain ⟨y11, c12, hd0⟩ := hd0
  replace hd0 := bd_some hd0; obtain ⟨y13, c14, hd0⟩ := hd0
  refine wg_drawn 7 [] [phR (kMach false false) a, phX (.int .i64 y9), phR (kMach false false) b, phX (.int .i64 y11), phR (tSl true (tInt .i64)) ([y9, y11] : List Int), phX (.int .i64 y13), phX (.int .i64 y13)] mixed (by kernel_rfl) (monoOk_of ⟨mono_r, mono_x, mono_r, mono_x, mono_r, mono_x, mono_x, trivial⟩) ⟨?_, ?_, ?_, ?_, ?_, ?_, ?_, trivial⟩ fun R15 le16 => ?_
  · intro l R0q hle ha hd
    have a2 : l 2 = v1 := ha 2 rfl
    exact gstep_plain rfl rfl rfl (ph_loadR ty27 a2 ((h2.mono le8).mono hle))
  · intro l R1q hle ha hd
    obtain ⟨d0, _⟩ := hd
    have f13 : phR (kMach false false) a (l 13) R1q := d0 rfl
    exact gstep_plain rfl rfl rfl (ph_callP (vs := [(l 13)]) en37 rfl (c_machines_Check f13 c10) (fun _ _ h => h))
  · intro l R2q hle ha hd
    have a3 : l 3 = v5 := ha 3 rfl
    exact gstep_plain rfl rfl rfl (ph_loadR ty27 a3 (h6.mono hle))
  · intro l R3q hle ha hd
    obtain ⟨d0, d1, _⟩ := hd
    have f15 : phR (kMach false false) b (l 15) R3q := d0 rfl
    exact gstep_plain rfl rfl rfl (ph_callP (vs := [(l 15)]) en37 rfl (c_machines_Check f15 c12) (fun _ _ h => h))
  · intro l R4q hle ha hd
    obtain ⟨d0, d1, _⟩ := hd
    have f14 : l 14 = (.int .i64 y9) := d0 rfl
    have f16 : l 16 = (.int .i64 y11) := d1 rfl
    exact gstep_plain rfl rfl rfl (ph_litT (T := (tInt .i64)) (X := ([y9, y11] : List Int)) (ps := [(0, (.int .i64 y9)), (1, (.int .i64 y11))]) (css := [[(.int .i64 y9)], [(.int .i64 y11)]]) Try.underlying110 zo31 (by simp only [List.map, ev, f14, f16] <;> rfl) rfl (lit_reps ⟨rfl, rfl, trivial⟩) rfl rfl (by decide))
  · intro l R5q hle ha hd
    obtain ⟨d0, d1, _⟩ := hd
    have f17 : phR (tSl true (tInt .i64)) ([y9, y11] : List Int) (l 17) R5q := d0 rfl
    exact gstep_plain rfl rfl rfl (ph_callP (vs := [(l 17)]) en51 rfl (c_cmp_Or_api_Errno (Sub.v (B := (tSl false (tInt .i64))) (sub_sl Sub.refl (fun _ => rfl)) f17) c14) (fun _ _ h => h))
  · intro l R6q hle ha hd
    obtain ⟨d0, d1, d2, d3, d4, d5, d6, d7, _⟩ := hd
    have f18 : l 18 = (.int .i64 y13) := d0 rfl
    exact gstep_plain rfl rfl rfl (ph_val (val_assign f18))
  intro v17 h18
  intro v19 h20
  intro v21 h22
  intro v23 h24
  intro v25 h26
  intro v27 h28
  intro v29 h30
  obtain rfl := Eq.symm h20
  obtain rfl := Eq.symm h24
  obtain rfl := Eq.symm h28
  obtain rfl := Eq.symm h30
  refine wo_nil ?_
  refine wg_seq ?_
  refine wg_region ?_
  refine wo_v rfl (val_move (v := (.int .i64 y13)) rfl) ?_
  refine wo_v rfl (val_neq rfl rfl) ?_
  refine wo_nil ?_
  refine wg_cond rfl (fun e31 => ?_) (fun e31 => ?_)
  · replace hd0 := sel_t e31 hd0; clear e31
    refine wg_seq ?_
    refine wg_region ?_
    refine wo_v rfl (val_move (v := (.int .i64 y13)) rfl) ?_
    refine wo_v rfl (val_assign (v := (.slice none 0 0)) rfl) ?_
    refine wo_v rfl (val_assign (v := (.bool false)) rfl) ?_
    refine wo_v rfl (val_assign (v := (.int .i64 y13)) rfl) ?_
    refine wo_nil ?_
    refine wg_ret ?_
    obtain rfl := Option.some.inj hd0
    refine body_end (D := []) (J := []) (rs := [.tmp 4, .tmp 5, .tmp 6]) (vs := [(.slice none 0 0), (.bool false), (.int .i64 y13)]) ((le4.trans le8).trans le16) rfl rfl ⟨rfl, rfl, rfl, trivial⟩ ?_
    exact ⟨rfl, ⟨(.slice none 0 0), rfl, sl_nil⟩⟩
  · replace hd0 := sel_f e31 hd0; clear e31
    refine wg_skip ?_
    refine wg_seq ?_
    replace hd0 := bd_some hd0; obtain ⟨y32, c33, hd0⟩ := hd0
    replace hd0 := bd_some hd0; obtain ⟨y34, c35, hd0⟩ := hd0
    refine wg_drawn 6 [] [phR (kMach false false) a, phR (tSl false (tInt .i64)) y32, phR (kMach false false) b, phR (tSl false (tInt .i64)) y34, phR (tSl false (tInt .i64)) y32, phR (tSl false (tInt .i64)) y34] mixed (by kernel_rfl) (monoOk_of ⟨mono_r, mono_r, mono_r, mono_r, mono_r, mono_r, trivial⟩) ⟨?_, ?_, ?_, ?_, ?_, ?_, trivial⟩ fun R36 le37 => ?_
    · intro l R0q hle ha hd
      have a2 : l 2 = v1 := ha 2 rfl
      exact gstep_plain rfl rfl rfl (ph_loadR ty27 a2 ((h2.mono (le8.trans le16)).mono hle))
    · intro l R1q hle ha hd
      obtain ⟨d0, _⟩ := hd
      have f22 : phR (kMach false false) a (l 22) R1q := d0 rfl
      exact gstep_plain rfl rfl rfl (ph_callP (vs := [(l 22)]) en44 rfl (c_walks_reached f22 c33) (fun _ _ h => h))
    · intro l R2q hle ha hd
      have a3 : l 3 = v5 := ha 3 rfl
      exact gstep_plain rfl rfl rfl (ph_loadR ty27 a3 ((h6.mono le16).mono hle))
    · intro l R3q hle ha hd
      obtain ⟨d0, d1, _⟩ := hd
      have f24 : phR (kMach false false) b (l 24) R3q := d0 rfl
      exact gstep_plain rfl rfl rfl (ph_callP (vs := [(l 24)]) en44 rfl (c_walks_reached f24 c35) (fun _ _ h => h))
    · intro l R4q hle ha hd
      obtain ⟨d0, d1, d2, d3, d4, d5, _⟩ := hd
      have f23 : phR (tSl false (tInt .i64)) y32 (l 23) R4q := d0 rfl
      exact gstep_plain rfl rfl rfl (ph_rep (val_assign rfl) f23)
    · intro l R5q hle ha hd
      obtain ⟨d0, d1, d2, d3, d4, d5, d6, _⟩ := hd
      have f25 : phR (tSl false (tInt .i64)) y34 (l 25) R5q := d0 rfl
      exact gstep_plain rfl rfl rfl (ph_rep (val_assign rfl) f25)
    intro v38 h39
    intro v40 h41
    intro v42 h43
    intro v44 h45
    intro v46 h47
    intro v48 h49
    refine wo_nil ?_
    refine wg_seq ?_
    refine wg_seq ?_
    replace hd0 := bd_some hd0; obtain ⟨y50, c51, hd0⟩ := hd0
    replace hd0 := bd_some hd0; obtain ⟨y52, c53, hd0⟩ := hd0
    replace hd0 := bd_some hd0; obtain ⟨y54, c55, hd0⟩ := hd0
    refine wg_drawn 8 [] [phR (kMach false false) a, phX v46, phR (kMach true true) y50, phR (kMach false false) b, phX v48, phR (kMach true true) y52, phX (.bool y54), phX (.bool (!y54))] mixed (by kernel_rfl) (monoOk_of ⟨mono_r, mono_x, mono_r, mono_r, mono_x, mono_r, mono_x, mono_x, trivial⟩) ⟨?_, ?_, ?_, ?_, ?_, ?_, ?_, ?_, trivial⟩ fun R56 le57 => ?_
    · intro l R0q hle ha hd
      have a2 : l 2 = v1 := ha 2 rfl
      exact gstep_plain rfl rfl rfl (ph_loadR ty27 a2 ((h2.mono ((le8.trans le16).trans le37)).mono hle))
    · intro l R1q hle ha hd
      have a8 : l 8 = v46 := ha 8 rfl
      exact gstep_plain rfl rfl rfl (ph_val (val_move a8))
    · intro l R2q hle ha hd
      obtain ⟨d0, d1, _⟩ := hd
      have f26 : phR (kMach false false) a (l 26) R2q := d0 rfl
      have f27 : l 27 = v46 := d1 rfl
      exact gstep_plain rfl rfl rfl (ph_callP (vs := [(l 26), v46]) en47 (by simp only [List.map, ev, f27] <;> rfl) (c_walks_part f26 (h47.mono hle) c51) (fun _ _ h => h))
    · intro l R3q hle ha hd
      have a3 : l 3 = v5 := ha 3 rfl
      exact gstep_plain rfl rfl rfl (ph_loadR ty27 a3 ((h6.mono (le16.trans le37)).mono hle))
    · intro l R4q hle ha hd
      have a9 : l 9 = v48 := ha 9 rfl
      exact gstep_plain rfl rfl rfl (ph_val (val_move a9))
    · intro l R5q hle ha hd
      obtain ⟨d0, d1, d2, _⟩ := hd
      have f29 : phR (kMach false false) b (l 29) R5q := d0 rfl
      have f30 : l 30 = v48 := d1 rfl
      exact gstep_plain rfl rfl rfl (ph_callP (vs := [(l 29), v48]) en47 (by simp only [List.map, ev, f30] <;> rfl) (c_walks_part f29 (h49.mono hle) c53) (fun _ _ h => h))
    · intro l R6q hle ha hd
      obtain ⟨d0, d1, d2, _⟩ := hd
      have f28 : phR (kMach true true) y50 (l 28) R6q := d0 rfl
      have f31 : phR (kMach true true) y52 (l 31) R6q := d1 rfl
      exact gstep_plain rfl rfl rfl (ph_callP (vs := [(l 28), (l 31)]) en50 rfl (c_machines_Same (Sub.v (B := (kMach false false)) (sub_as (sub_pair Sub.refl (sub_pair Sub.refl (sub_sl (sub_sl Sub.refl (fun _ => rfl)) (fun _ => rfl))))) f28) (Sub.v (B := (kMach false false)) (sub_as (sub_pair Sub.refl (sub_pair Sub.refl (sub_sl (sub_sl Sub.refl (fun _ => rfl)) (fun _ => rfl))))) f31) c55) (fun _ _ h => h))
    · intro l R7q hle ha hd
      obtain ⟨d0, _⟩ := hd
      have f32 : l 32 = (.bool y54) := d0 rfl
      exact gstep_plain rfl rfl rfl (ph_val (val_not f32))
    intro v58 h59
    intro v60 h61
    intro v62 h63
    intro v64 h65
    intro v66 h67
    intro v68 h69
    intro v70 h71
    intro v72 h73
    obtain rfl := Eq.symm h61
    obtain rfl := Eq.symm h67
    obtain rfl := Eq.symm h71
    obtain rfl := Eq.symm h73
    refine wo_nil ?_
    refine wg_cond rfl (fun e74 => ?_) (fun e74 => ?_)
    · replace hd0 := sel_t e74 hd0; clear e74
      refine wg_seq ?_
      refine wg_region ?_
      refine wo_v rfl (val_assign (v := (.slice none 0 0)) rfl) ?_
      refine wo_v rfl (val_assign (v := (.bool false)) rfl) ?_
      refine wo_v rfl (val_assign (v := (.int .i64 0)) rfl) ?_
      refine wo_nil ?_
      refine wg_ret ?_
      obtain rfl := Option.some.inj hd0
      refine body_end (D := []) (J := []) (rs := [.tmp 4, .tmp 5, .tmp 6]) (vs := [(.slice none 0 0), (.bool false), (.int .i64 0)]) ((((le4.trans le8).trans le16).trans le37).trans le57) rfl rfl ⟨rfl, rfl, rfl, trivial⟩ ?_
      exact ⟨rfl, ⟨(.slice none 0 0), rfl, sl_nil⟩⟩
    · replace hd0 := sel_f e74 hd0; clear e74
      refine wg_skip ?_
      refine wg_seq ?_
      refine wg_region ?_
      refine wo_lit (T := (tInt .i64)) (X := ([(-1)] : List Int)) (ps := [(0, (.int .i64 (-1)))]) (css := [[(.int .i64 (-1))]]) rfl Try.underlying36 zo3 rfl rfl (lit_reps ⟨rfl, trivial⟩) rfl rfl (by decide) fun v75 f76 cap77 h78 => ?_
      refine wo_fieldR rfl fd27_2 pt_Mach2 rfl (h2.mono (((le8.trans le16).trans le37).trans le57)) fun v80 h81 => ?_
      refine wo_loadR rfl ty25 rfl h81 fun v82 h83 => ?_
      refine wo_v rfl (val_lenR rfl Try.underlying25 rfl (sl_s h83)) ?_
      refine wo_freeze (i := 0) rfl h78 fun R84 le85 h86 => ?_
      have h87 : VRep (tSl true (tInt .i64)) R84 v75 ([(-1)] : List Int) := (sl_t h86 cap77)
      replace hd0 := bd_some hd0; obtain ⟨y88, c89, hd0⟩ := hd0
      refine wo_callO (Oc := []) (Or := [] ++ A) (cs := []) (vs := [v75, (.int .i64 (↑a.rows.length : Int))]) rfl en52 rfl rfl ((List.Perm.refl _)) (c_slices_Repeat_int_o (Sub.v (B := (tSl false (tInt .i64))) (sub_sl Sub.refl (fun _ => rfl)) h87) c89) fun v90 R93 Oc92 le94 h91 => ?_
      obtain ⟨_, f96, rfl, rfl, h97⟩ := h91
      refine wo_v rfl (val_assign (v := v90) rfl) ?_
      refine wo_nil ?_
      replace hd0 := bd_some hd0; obtain ⟨o99, hd1, hd0⟩ := hd0
      refine wg_meet (γ := (List Int) × Frag) true [39, 40, 41, 42, 43, 44, 45, 11, 12, 46, 47, 48, 49, 50, 51, 52, 53] (fun g => []) (fun g => [g.2] ++ A) (fun g R => o99 = g.1 ∧ ORep (tInt .i64) R g.2 v90 g.1 ∧ True) ?_ ?_
      ·
        refine wg_seq ?_
        refine wg_region ?_
        refine wo_v rfl (val_move (v := v46) rfl) ?_
        refine wo_v rfl (val_lenR rfl Try.underlying36 rfl (sl_s (h47.mono ((le57.trans le85).trans le94)))) ?_
        refine wo_v rfl (val_move (v := (.int .i64 0)) rfl) ?_
        refine wo_nil ?_
        refine wg_block ?_
        refine wg_loopS (γ := Nat × Int × (List Int) × Frag) true [42, 43, 44, 45, 11, 12, 46, 47, 48, 49, 50, 51, 52, 53, 41] (fun g => [(41, (.int .i64 g.2.1))]) (fun g => [g.2.2.2] ++ A) (fun g R => walks_Isomorphic_L1 N y32 y34 g.1 g.2.1 g.2.2.1 = some o99 ∧ ORep (tInt .i64) R g.2.2.2 v90 g.2.2.1 ∧ True) (fun g => g.1) (N, 0, y88, f96) ⟨rfl, trivial⟩ ⟨[], List.Perm.refl _⟩ ⟨hd1, h97, trivial⟩ (fun _ => rfl) ?_
        clear hd1
        rintro ⟨F104, x105, x106, f109⟩ j128 D129 R107 hD130 le108 ⟨hd1, h110, _⟩
        obtain rfl := hD130 rfl
        rcases F104 with _ | F104
        · exact none_elim hd1
        replace hd1 : walks_Isomorphic_L1 N y32 y34 (F104 + 1) x105 x106 = some o99 := hd1; rw [walks_Isomorphic_L1] at hd1
        refine wg_seq ?_
        refine wg_region ?_
        refine wo_v rfl (val_lss rfl rfl) ?_
        refine wo_nil ?_
        refine wg_seq ?_
        refine wg_cond rfl (fun e111 => ?_) (fun e111 => ?_)
        · replace hd1 := sel_t e111 hd1; clear e111
          refine wg_skip ?_
          refine wg_seq ?_
          refine wg_block ?_
          refine wg_seq ?_
          refine wg_region ?_
          refine wo_v rfl (val_move (v := (.int .i64 x105)) rfl) ?_
          have g112 := (gd_some hd1).1; replace hd1 := (gd_some hd1).2
          refine wo_indexR (i := x105.toNat) rfl sl36 rfl (sl_s (h47.mono (((le57.trans le85).trans le94).trans le108))) (idx_nonneg rfl g112.1) (okI_lt g112) fun v113 h114 => ?_
          refine wo_loadR rfl ty3 rfl h114 fun v115 h116 => ?_
          obtain rfl := vrep_int.1 h116
          refine wo_v rfl (val_assign (v := (.int .i64 x105)) rfl) ?_
          refine wo_v rfl (val_assign (v := (.int .i64 (ix y32 x105))) rfl) ?_
          refine wo_nil ?_
          refine wg_region ?_
          refine wo_v rfl (val_move (v := v90) rfl) ?_
          refine wo_v rfl (val_move (v := (.int .i64 (ix y32 x105))) rfl) ?_
          refine wo_v rfl (val_move (v := v48) rfl) ?_
          refine wo_v rfl (val_move (v := (.int .i64 x105)) rfl) ?_
          have g117 := (gd_some hd1).1; replace hd1 := (gd_some hd1).2
          refine wo_indexR (i := x105.toNat) rfl sl36 rfl (sl_s (h49.mono (((le57.trans le85).trans le94).trans le108))) (idx_nonneg rfl g117.1) (okI_lt g117) fun v118 h119 => ?_
          refine wo_loadR rfl ty3 rfl h119 fun v120 h121 => ?_
          obtain rfl := vrep_int.1 h121
          have g122 := (gd_some hd1).1; replace hd1 := (gd_some hd1).2
          refine wo_indexO (i := (ix y32 x105).toNat) rfl sl36 rfl h110 (idx_nonneg rfl g122.1) (okI_lt g122) fun v123 h124 => ?_
          refine wo_storeO (i := (ix y32 x105).toNat) (j := 0) ty3 h110 rfl rfl h124 (okI_lt g122) rfl (vrep_int.2 rfl) fun f125 h126 => ?_
          refine wo_nil ?_
          refine wg_region ?_
          have g127 := (gd_some hd1).1; replace hd1 := (gd_some hd1).2
          refine wo_v rfl (val_add rfl rfl g127) ?_
          refine wo_v rfl (val_move (v := (.int .i64 (x105 + 1))) rfl) ?_
          refine wo_nil ?_
          exact ⟨(fun _ => rfl), (RH.le.refl _), (by repeat (first | exact off_self | refine off_upd rfl ?_ | refine off_setl rfl ?_ | refine off_mask_sub rfl ?_)), (F104, x105 + 1, (up x106 (ix y32 x105) (ix y34 x105)), f125), Nat.lt_succ_self _, ⟨rfl, trivial⟩, ⟨[], List.Perm.refl _⟩, hd1, h126, trivial⟩
        · replace hd1 := sel_f e111 hd1; clear e111
          refine wg_exit ?_
          exact ⟨(fun _ => rfl), le108, (by repeat (first | exact off_self | refine off_upd rfl ?_ | refine off_setl rfl ?_ | refine off_mask_sub rfl ?_)), (x106, f109), trivial, ⟨[], List.Perm.refl _⟩, (Option.some.inj hd1).symm, h110, trivial⟩
      ·
        rintro ⟨o99, f102⟩ j131 D132 R100 hD133 le101 ⟨rfl, h103, _⟩
        obtain rfl := hD133 rfl
        refine wg_seq ?_
        refine wg_region ?_
        refine wo_v rfl (val_move (v := v90) rfl) ?_
        refine wo_freeze (i := 0) rfl h103 fun R134 le135 h136 => ?_
        have h137 : VRep (tSl false (tInt .i64)) R134 v90 o99 := (sl_f h136)
        replace hd0 := bd_some hd0; obtain ⟨y138, c139, hd0⟩ := hd0
        refine wo_callP rfl en41 rfl (c_slices_Clip_int h137 c139) fun v140 R142 le143 h141 => ?_
        refine wo_v rfl (val_assign (v := v140) rfl) ?_
        refine wo_v rfl (val_assign (v := (.bool true)) rfl) ?_
        refine wo_v rfl (val_assign (v := (.int .i64 0)) rfl) ?_
        refine wo_nil ?_
        refine wg_ret ?_
        obtain rfl := Option.some.inj hd0
        refine body_end (D := []) (J := []) (rs := [.tmp 4, .tmp 5, .tmp 6]) (vs := [v140, (.bool true), (.int .i64 0)]) (((((((((le4.trans le8).trans le16).trans le37).trans le57).trans le85).trans le94).trans le101).trans le135).trans le143) rfl rfl ⟨rfl, rfl, rfl, trivial⟩ ?_
        exact ⟨rfl, ⟨v140, rfl, h141⟩⟩
theorem en32 : Enters Try.prog 32 := enters_of Try.func32 rfl (by kernel_rfl)
theorem c_gauntletref04_Same {N : Nat} {R : RH} {a : Mach} {v_a : Value} (h_a : VRep (kMach false false) R v_a a) {b : Mach} {v_b : Value} (h_b : VRep (kMach false false) R v_b b) {r : Bool} (hd0 : gauntletref04_Same N a b = some r) : CallP Try.prog 31 #[v_a, v_b] R (fun v R' => v = (.bool r)) := by
  refine callP_of_wg (args := [v_a, v_b]) Try.func31 rfl rfl fun A => ?_
  rw [gauntletref04_Same] at hd0
  refine wg_seq ?_
  refine wg_region ?_
  refine wo_boxR (T := (kMach false false)) rfl rfl h_a fun v1 R3 le4 h2 => ?_
  refine wo_boxR (T := (kMach false false)) rfl rfl (h_b.mono le4) fun v5 R7 le8 h6 => ?_
  refine wo_v rfl (val_assign (v := (.bool false)) rfl) ?_
  refine wo_nil ?_
  refine wg_seq ?_
  refine wg_seq ?_
  refine wg_guarded 21 [] [phP (tInt .i64) a.inputs, phX (.int .i64 a.inputs), phP (tInt .i64) b.inputs, phX (.int .i64 b.inputs), phX (.bool (decide (a.inputs ≠ b.inputs))), phX (.bool (decide (a.inputs ≠ b.inputs))), phG (true && ((decide (a.inputs ≠ b.inputs)) == false)) (phP (tInt .i64) a.outputs), phG (true && ((decide (a.inputs ≠ b.inputs)) == false)) (phX (.int .i64 a.outputs)), phG (true && ((decide (a.inputs ≠ b.inputs)) == false)) (phP (tInt .i64) b.outputs), phG (true && ((decide (a.inputs ≠ b.inputs)) == false)) (phX (.int .i64 b.outputs)), phG (true && ((decide (a.inputs ≠ b.inputs)) == false)) (phX (.bool (decide (a.outputs ≠ b.outputs)))), phX (.bool ((decide (a.inputs ≠ b.inputs)) || (decide (a.outputs ≠ b.outputs)))), phX (.bool ((decide (a.inputs ≠ b.inputs)) || (decide (a.outputs ≠ b.outputs)))), phG (true && (((decide (a.inputs ≠ b.inputs)) || (decide (a.outputs ≠ b.outputs))) == false)) (phP (tSl false (tSl false kEdge)) a.rows), phG (true && (((decide (a.inputs ≠ b.inputs)) || (decide (a.outputs ≠ b.outputs))) == false)) (phR (tSl false (tSl false kEdge)) a.rows), phG (true && (((decide (a.inputs ≠ b.inputs)) || (decide (a.outputs ≠ b.outputs))) == false)) (phX (.int .i64 (↑a.rows.length : Int))), phG (true && (((decide (a.inputs ≠ b.inputs)) || (decide (a.outputs ≠ b.outputs))) == false)) (phP (tSl false (tSl false kEdge)) b.rows), phG (true && (((decide (a.inputs ≠ b.inputs)) || (decide (a.outputs ≠ b.outputs))) == false)) (phR (tSl false (tSl false kEdge)) b.rows), phG (true && (((decide (a.inputs ≠ b.inputs)) || (decide (a.outputs ≠ b.outputs))) == false)) (phX (.int .i64 (↑b.rows.length : Int))), phG (true && (((decide (a.inputs ≠ b.inputs)) || (decide (a.outputs ≠ b.outputs))) == false)) (phX (.bool (decide ((↑a.rows.length : Int) ≠ (↑b.rows.length : Int))))), phX (.bool (((decide (a.inputs ≠ b.inputs)) || (decide (a.outputs ≠ b.outputs))) || (decide ((↑a.rows.length : Int) ≠ (↑b.rows.length : Int)))))] (by kernel_rfl) (by kernel_rfl) (monoOk_of ⟨mono_p, mono_x, mono_p, mono_x, mono_x, mono_x, (mono_g mono_p), (mono_g mono_x), (mono_g mono_p), (mono_g mono_x), (mono_g mono_x), mono_x, mono_x, (mono_g mono_p), (mono_g mono_r), (mono_g mono_x), (mono_g mono_p), (mono_g mono_r), (mono_g mono_x), (mono_g mono_x), mono_x, trivial⟩) ⟨?_, ?_, ?_, ?_, ?_, ?_, ?_, ?_, ?_, ?_, ?_, ?_, ?_, ?_, ?_, ?_, ?_, ?_, ?_, ?_, ?_, trivial⟩ fun R9 le10 => ?_
  · intro l R0q hle ha hd
    have a2 : l 2 = v1 := ha 2 rfl
    exact gstep_plain rfl rfl rfl (ph_fieldR fd27_0 pt_Mach0 a2 ((h2.mono le8).mono hle))
  · intro l R1q hle ha hd
    obtain ⟨d0, _⟩ := hd
    have f7 : phP (tInt .i64) a.inputs (l 7) R1q := d0 rfl
    exact gstep_plain rfl rfl rfl (ph_exact (ph_loadR ty3 rfl f7) (fun _ _ h => vrep_int.1 h))
  · intro l R2q hle ha hd
    have a3 : l 3 = v5 := ha 3 rfl
    exact gstep_plain rfl rfl rfl (ph_fieldR fd27_0 pt_Mach0 a3 (h6.mono hle))
  · intro l R3q hle ha hd
    obtain ⟨d0, _⟩ := hd
    have f9 : phP (tInt .i64) b.inputs (l 9) R3q := d0 rfl
    exact gstep_plain rfl rfl rfl (ph_exact (ph_loadR ty3 rfl f9) (fun _ _ h => vrep_int.1 h))
  · intro l R4q hle ha hd
    obtain ⟨d0, d1, _⟩ := hd
    have f8 : l 8 = (.int .i64 a.inputs) := d0 rfl
    have f10 : l 10 = (.int .i64 b.inputs) := d1 rfl
    exact gstep_plain rfl rfl rfl (ph_val (val_neq f8 f10))
  · intro l R5q hle ha hd
    obtain ⟨d0, _⟩ := hd
    have f11 : l 11 = (.bool (decide (a.inputs ≠ b.inputs))) := d0 rfl
    exact gstep_plain rfl rfl rfl (ph_val (val_move f11))
  · intro l R6q hle ha hd
    obtain ⟨d0, _⟩ := hd
    have a2 : l 2 = v1 := ha 2 rfl
    exact gstep_guard (Gj := true) (Bj := decide (a.inputs ≠ b.inputs)) rfl rfl rfl (gtrue (d0 rfl)) rfl (fun hG hB => ph_fieldR fd27_1 pt_Mach1 a2 ((h2.mono le8).mono hle))
  · intro l R7q hle ha hd
    obtain ⟨d0, d1, _⟩ := hd
    have f13g : phG (true && ((decide (a.inputs ≠ b.inputs)) == false)) (phP (tInt .i64) a.outputs) (l 13) R7q := d0 rfl
    exact gstep_guard (Gj := true) (Bj := decide (a.inputs ≠ b.inputs)) rfl rfl rfl (gtrue (d1 rfl)) rfl (fun hG hB => ph_exact (ph_loadR ty3 rfl (f13g.1 (gandT rfl hB))) (fun _ _ h => vrep_int.1 h))
  · intro l R8q hle ha hd
    obtain ⟨d0, _⟩ := hd
    have a3 : l 3 = v5 := ha 3 rfl
    exact gstep_guard (Gj := true) (Bj := decide (a.inputs ≠ b.inputs)) rfl rfl rfl (gtrue (d0 rfl)) rfl (fun hG hB => ph_fieldR fd27_1 pt_Mach1 a3 (h6.mono hle))
  · intro l R9q hle ha hd
    obtain ⟨d0, d1, _⟩ := hd
    have f15g : phG (true && ((decide (a.inputs ≠ b.inputs)) == false)) (phP (tInt .i64) b.outputs) (l 15) R9q := d0 rfl
    exact gstep_guard (Gj := true) (Bj := decide (a.inputs ≠ b.inputs)) rfl rfl rfl (gtrue (d1 rfl)) rfl (fun hG hB => ph_exact (ph_loadR ty3 rfl (f15g.1 (gandT rfl hB))) (fun _ _ h => vrep_int.1 h))
  · intro l R10q hle ha hd
    obtain ⟨d0, d1, d2, _⟩ := hd
    have f14g : phG (true && ((decide (a.inputs ≠ b.inputs)) == false)) (phX (.int .i64 a.outputs)) (l 14) R10q := d0 rfl
    have f16g : phG (true && ((decide (a.inputs ≠ b.inputs)) == false)) (phX (.int .i64 b.outputs)) (l 16) R10q := d1 rfl
    exact gstep_guard (Gj := true) (Bj := decide (a.inputs ≠ b.inputs)) rfl rfl rfl (gtrue (d2 rfl)) rfl (fun hG hB => ph_val (val_neq (show l 14 = (.int .i64 a.outputs) from f14g.1 (gandT rfl hB)) (show l 16 = (.int .i64 b.outputs) from f16g.1 (gandT rfl hB))))
  · intro l R11q hle ha hd
    obtain ⟨d0, d1, _⟩ := hd
    have f12 : l 12 = (.bool (decide (a.inputs ≠ b.inputs))) := d0 rfl
    have f17g : phG (true && ((decide (a.inputs ≠ b.inputs)) == false)) (phX (.bool (decide (a.outputs ≠ b.outputs)))) (l 17) R11q := d1 rfl
    exact gstep_plain rfl rfl rfl (ph_val (val_or f12 rfl (fun hb => (show l 17 = (.bool (decide (a.outputs ≠ b.outputs))) from f17g.1 (gandT rfl hb)))))
  · intro l R12q hle ha hd
    obtain ⟨d0, d1, _⟩ := hd
    have f18 : l 18 = (.bool ((decide (a.inputs ≠ b.inputs)) || (decide (a.outputs ≠ b.outputs)))) := d0 rfl
    exact gstep_plain rfl rfl rfl (ph_val (val_move f18))
  · intro l R13q hle ha hd
    obtain ⟨d0, _⟩ := hd
    have a2 : l 2 = v1 := ha 2 rfl
    exact gstep_guard (Gj := true) (Bj := (decide (a.inputs ≠ b.inputs)) || (decide (a.outputs ≠ b.outputs))) rfl rfl rfl (gtrue (d0 rfl)) rfl (fun hG hB => ph_fieldR fd27_2 pt_Mach2 a2 ((h2.mono le8).mono hle))
  · intro l R14q hle ha hd
    obtain ⟨d0, d1, _⟩ := hd
    have f20g : phG (true && (((decide (a.inputs ≠ b.inputs)) || (decide (a.outputs ≠ b.outputs))) == false)) (phP (tSl false (tSl false kEdge)) a.rows) (l 20) R14q := d0 rfl
    exact gstep_guard (Gj := true) (Bj := (decide (a.inputs ≠ b.inputs)) || (decide (a.outputs ≠ b.outputs))) rfl rfl rfl (gtrue (d1 rfl)) rfl (fun hG hB => ph_loadR ty25 rfl (f20g.1 (gandT rfl hB)))
  · intro l R15q hle ha hd
    obtain ⟨d0, d1, _⟩ := hd
    have f21g : phG (true && (((decide (a.inputs ≠ b.inputs)) || (decide (a.outputs ≠ b.outputs))) == false)) (phR (tSl false (tSl false kEdge)) a.rows) (l 21) R15q := d0 rfl
    exact gstep_guard (Gj := true) (Bj := (decide (a.inputs ≠ b.inputs)) || (decide (a.outputs ≠ b.outputs))) rfl rfl rfl (gtrue (d1 rfl)) rfl (fun hG hB => ph_val (val_lenR rfl Try.underlying25 rfl (sl_s (f21g.1 (gandT rfl hB)))))
  · intro l R16q hle ha hd
    obtain ⟨d0, _⟩ := hd
    have a3 : l 3 = v5 := ha 3 rfl
    exact gstep_guard (Gj := true) (Bj := (decide (a.inputs ≠ b.inputs)) || (decide (a.outputs ≠ b.outputs))) rfl rfl rfl (gtrue (d0 rfl)) rfl (fun hG hB => ph_fieldR fd27_2 pt_Mach2 a3 (h6.mono hle))
  · intro l R17q hle ha hd
    obtain ⟨d0, d1, _⟩ := hd
    have f23g : phG (true && (((decide (a.inputs ≠ b.inputs)) || (decide (a.outputs ≠ b.outputs))) == false)) (phP (tSl false (tSl false kEdge)) b.rows) (l 23) R17q := d0 rfl
    exact gstep_guard (Gj := true) (Bj := (decide (a.inputs ≠ b.inputs)) || (decide (a.outputs ≠ b.outputs))) rfl rfl rfl (gtrue (d1 rfl)) rfl (fun hG hB => ph_loadR ty25 rfl (f23g.1 (gandT rfl hB)))
  · intro l R18q hle ha hd
    obtain ⟨d0, d1, _⟩ := hd
    have f24g : phG (true && (((decide (a.inputs ≠ b.inputs)) || (decide (a.outputs ≠ b.outputs))) == false)) (phR (tSl false (tSl false kEdge)) b.rows) (l 24) R18q := d0 rfl
    exact gstep_guard (Gj := true) (Bj := (decide (a.inputs ≠ b.inputs)) || (decide (a.outputs ≠ b.outputs))) rfl rfl rfl (gtrue (d1 rfl)) rfl (fun hG hB => ph_val (val_lenR rfl Try.underlying25 rfl (sl_s (f24g.1 (gandT rfl hB)))))
  · intro l R19q hle ha hd
    obtain ⟨d0, d1, d2, _⟩ := hd
    have f22g : phG (true && (((decide (a.inputs ≠ b.inputs)) || (decide (a.outputs ≠ b.outputs))) == false)) (phX (.int .i64 (↑a.rows.length : Int))) (l 22) R19q := d0 rfl
    have f25g : phG (true && (((decide (a.inputs ≠ b.inputs)) || (decide (a.outputs ≠ b.outputs))) == false)) (phX (.int .i64 (↑b.rows.length : Int))) (l 25) R19q := d1 rfl
    exact gstep_guard (Gj := true) (Bj := (decide (a.inputs ≠ b.inputs)) || (decide (a.outputs ≠ b.outputs))) rfl rfl rfl (gtrue (d2 rfl)) rfl (fun hG hB => ph_val (val_neq (show l 22 = (.int .i64 (↑a.rows.length : Int)) from f22g.1 (gandT rfl hB)) (show l 25 = (.int .i64 (↑b.rows.length : Int)) from f25g.1 (gandT rfl hB))))
  · intro l R20q hle ha hd
    obtain ⟨d0, d1, _⟩ := hd
    have f19 : l 19 = (.bool ((decide (a.inputs ≠ b.inputs)) || (decide (a.outputs ≠ b.outputs)))) := d0 rfl
    have f26g : phG (true && (((decide (a.inputs ≠ b.inputs)) || (decide (a.outputs ≠ b.outputs))) == false)) (phX (.bool (decide ((↑a.rows.length : Int) ≠ (↑b.rows.length : Int))))) (l 26) R20q := d1 rfl
    exact gstep_plain rfl rfl rfl (ph_val (val_or f19 rfl (fun hb => (show l 26 = (.bool (decide ((↑a.rows.length : Int) ≠ (↑b.rows.length : Int)))) from f26g.1 (gandT rfl hb)))))
  intro v11 h12
  intro v13 h14
  intro v15 h16
  intro v17 h18
  intro v19 h20
  intro v21 h22
  intro v23 h24
  intro v25 h26
  intro v27 h28
  intro v29 h30
  intro v31 h32
  intro v33 h34
  intro v35 h36
  intro v37 h38
  intro v39 h40
  intro v41 h42
  intro v43 h44
  intro v45 h46
  intro v47 h48
  intro v49 h50
  intro v51 h52
  obtain rfl := Eq.symm h14
  obtain rfl := Eq.symm h18
  obtain rfl := Eq.symm h20
  obtain rfl := Eq.symm h22
  obtain rfl := Eq.symm h34
  obtain rfl := Eq.symm h36
  obtain rfl := Eq.symm h52
  refine wo_nil ?_
  refine wg_cond rfl (fun e53 => ?_) (fun e53 => ?_)
  · replace hd0 := sel_t e53 hd0; clear e53
    refine wg_seq ?_
    refine wg_region ?_
    refine wo_v rfl (val_assign (v := (.bool false)) rfl) ?_
    refine wo_nil ?_
    refine wg_ret ?_
    obtain rfl := Option.some.inj hd0
    refine body_end (D := []) (J := []) (rs := [.tmp 4]) (vs := [(.bool false)]) ((le4.trans le8).trans le10) rfl rfl ⟨rfl, trivial⟩ ?_
    exact ⟨rfl, rfl⟩
  · replace hd0 := sel_f e53 hd0; clear e53
    refine wg_skip ?_
    replace hd0 := bd_some hd0; obtain ⟨q55, hd1, hd0⟩ := hd0
    refine wg_meet (γ := Unit) true [5, 28, 29, 30, 31, 32, 35, 36, 37, 38, 39, 40, 41, 42, 43, 44, 45, 46, 47, 4, 6, 48, 49, 50, 51, 52, 53, 54, 55, 58, 59, 60, 61, 62, 63, 64, 65, 66, 67, 68, 69, 70, 71, 72, 73, 74, 56, 57, 33, 34] (fun g => []) (fun g => [] ++ A) (fun g R => q55 = Ex.go g ∧ True) ?_ ?_
    ·
      refine wg_seq ?_
      refine wg_region ?_
      refine wo_v rfl (val_assign (v := (.int .i64 0)) rfl) ?_
      refine wo_nil ?_
      refine wg_block ?_
      refine wg_loopS (γ := Nat × Int) true [28, 29, 30, 31, 32, 35, 36, 37, 38, 39, 40, 41, 42, 43, 44, 45, 46, 47, 4, 6, 48, 49, 50, 51, 52, 53, 54, 55, 58, 59, 60, 61, 62, 63, 64, 65, 66, 67, 68, 69, 70, 71, 72, 73, 74, 56, 57, 33, 34, 5] (fun g => [(5, (.int .i64 g.2))]) (fun g => [] ++ A) (fun g R => gauntletref04_Same_L1 N a b g.1 g.2 = some q55 ∧ True) (fun g => g.1) (N, 0) ⟨rfl, trivial⟩ ⟨[], List.Perm.refl _⟩ ⟨hd1, trivial⟩ (fun _ => rfl) ?_
      clear hd1
      rintro ⟨F58, x59⟩ j165 D166 R60 hD167 le61 ⟨hd1, _⟩
      obtain rfl := hD167 rfl
      rcases F58 with _ | F58
      · exact none_elim hd1
      replace hd1 : gauntletref04_Same_L1 N a b (F58 + 1) x59 = some q55 := hd1; rw [gauntletref04_Same_L1] at hd1
      refine wg_seq ?_
      refine wg_seq ?_
      refine wg_region ?_
      refine wo_v rfl (val_move (v := (.int .i64 x59)) rfl) ?_
      refine wo_fieldR rfl fd27_2 pt_Mach2 rfl (h2.mono ((le8.trans le10).trans le61)) fun v62 h63 => ?_
      refine wo_loadR rfl ty25 rfl h63 fun v64 h65 => ?_
      refine wo_v rfl (val_lenR rfl Try.underlying25 rfl (sl_s h65)) ?_
      refine wo_v rfl (val_lss rfl rfl) ?_
      refine wo_nil ?_
      refine wg_cond rfl (fun e66 => ?_) (fun e66 => ?_)
      · replace hd1 := sel_t e66 hd1; clear e66
        refine wg_skip ?_
        replace hd1 := bd_some hd1; obtain ⟨q68, hd2, hd1⟩ := hd1
        refine wg_meet (γ := Unit) true [35, 36, 37, 38, 39, 40, 41, 42, 43, 44, 45, 46, 47, 4, 6, 48, 49, 50, 51, 52, 53, 54, 55, 58, 59, 60, 61, 62, 63, 64, 65, 66, 67, 68, 69, 70, 71, 72, 73, 74, 56, 57] (fun g => []) (fun g => [] ++ A) (fun g R => q68 = Ex.go g ∧ True) ?_ ?_
        ·
          refine wg_block ?_
          refine wg_seq ?_
          refine wg_seq ?_
          have g71 := (gd_some hd2).1; replace hd2 := (gd_some hd2).2
          have g72 := (gd_some hd2).1; replace hd2 := (gd_some hd2).2
          refine wg_drawn 13 [] [phP (tSl false (tSl false kEdge)) a.rows, phR (tSl false (tSl false kEdge)) a.rows, phX (.int .i64 x59), phP (tSl false kEdge) (ix a.rows x59), phR (tSl false kEdge) (ix a.rows x59), phX (.int .i64 (↑(ix a.rows x59).length : Int)), phP (tSl false (tSl false kEdge)) b.rows, phR (tSl false (tSl false kEdge)) b.rows, phX (.int .i64 x59), phP (tSl false kEdge) (ix b.rows x59), phR (tSl false kEdge) (ix b.rows x59), phX (.int .i64 (↑(ix b.rows x59).length : Int)), phX (.bool (decide ((↑(ix a.rows x59).length : Int) ≠ (↑(ix b.rows x59).length : Int))))] mixed (by kernel_rfl) (monoOk_of ⟨mono_p, mono_r, mono_x, mono_p, mono_r, mono_x, mono_p, mono_r, mono_x, mono_p, mono_r, mono_x, mono_x, trivial⟩) ⟨?_, ?_, ?_, ?_, ?_, ?_, ?_, ?_, ?_, ?_, ?_, ?_, ?_, trivial⟩ fun R73 le74 => ?_
          · intro l R0q hle ha hd
            have a2 : l 2 = v1 := ha 2 rfl
            exact gstep_plain rfl rfl rfl (ph_fieldR fd27_2 pt_Mach2 a2 ((h2.mono ((le8.trans le10).trans le61)).mono hle))
          · intro l R1q hle ha hd
            obtain ⟨d0, _⟩ := hd
            have f35 : phP (tSl false (tSl false kEdge)) a.rows (l 35) R1q := d0 rfl
            exact gstep_plain rfl rfl rfl (ph_loadR ty25 rfl f35)
          · intro l R2q hle ha hd
            have a5 : l 5 = (.int .i64 x59) := ha 5 rfl
            exact gstep_plain rfl rfl rfl (ph_val (val_move a5))
          · intro l R3q hle ha hd
            obtain ⟨d0, d1, _⟩ := hd
            have f36 : phR (tSl false (tSl false kEdge)) a.rows (l 36) R3q := d0 rfl
            have f37 : l 37 = (.int .i64 x59) := d1 rfl
            exact gstep_plain rfl rfl rfl (ph_indexR (i := x59.toNat) sl25 rfl (sl_s f36) (idx_nonneg f37 g71.1) (okI_lt g71))
          · intro l R4q hle ha hd
            obtain ⟨d0, _⟩ := hd
            have f38 : phP (tSl false kEdge) (ix a.rows x59) (l 38) R4q := d0 rfl
            exact gstep_plain rfl rfl rfl (ph_loadR ty50 rfl f38)
          · intro l R5q hle ha hd
            obtain ⟨d0, _⟩ := hd
            have f39 : phR (tSl false kEdge) (ix a.rows x59) (l 39) R5q := d0 rfl
            exact gstep_plain rfl rfl rfl (ph_val (val_lenR rfl Try.underlying50 rfl (sl_s f39)))
          · intro l R6q hle ha hd
            have a3 : l 3 = v5 := ha 3 rfl
            exact gstep_plain rfl rfl rfl (ph_fieldR fd27_2 pt_Mach2 a3 ((h6.mono (le10.trans le61)).mono hle))
          · intro l R7q hle ha hd
            obtain ⟨d0, _⟩ := hd
            have f41 : phP (tSl false (tSl false kEdge)) b.rows (l 41) R7q := d0 rfl
            exact gstep_plain rfl rfl rfl (ph_loadR ty25 rfl f41)
          · intro l R8q hle ha hd
            have a5 : l 5 = (.int .i64 x59) := ha 5 rfl
            exact gstep_plain rfl rfl rfl (ph_val (val_move a5))
          · intro l R9q hle ha hd
            obtain ⟨d0, d1, _⟩ := hd
            have f42 : phR (tSl false (tSl false kEdge)) b.rows (l 42) R9q := d0 rfl
            have f43 : l 43 = (.int .i64 x59) := d1 rfl
            exact gstep_plain rfl rfl rfl (ph_indexR (i := x59.toNat) sl25 rfl (sl_s f42) (idx_nonneg f43 g72.1) (okI_lt g72))
          · intro l R10q hle ha hd
            obtain ⟨d0, _⟩ := hd
            have f44 : phP (tSl false kEdge) (ix b.rows x59) (l 44) R10q := d0 rfl
            exact gstep_plain rfl rfl rfl (ph_loadR ty50 rfl f44)
          · intro l R11q hle ha hd
            obtain ⟨d0, _⟩ := hd
            have f45 : phR (tSl false kEdge) (ix b.rows x59) (l 45) R11q := d0 rfl
            exact gstep_plain rfl rfl rfl (ph_val (val_lenR rfl Try.underlying50 rfl (sl_s f45)))
          · intro l R12q hle ha hd
            obtain ⟨d0, d1, _⟩ := hd
            have f40 : l 40 = (.int .i64 (↑(ix a.rows x59).length : Int)) := d0 rfl
            have f46 : l 46 = (.int .i64 (↑(ix b.rows x59).length : Int)) := d1 rfl
            exact gstep_plain rfl rfl rfl (ph_val (val_neq f40 f46))
          intro v75 h76
          intro v77 h78
          intro v79 h80
          intro v81 h82
          intro v83 h84
          intro v85 h86
          intro v87 h88
          intro v89 h90
          intro v91 h92
          intro v93 h94
          intro v95 h96
          intro v97 h98
          intro v99 h100
          obtain rfl := Eq.symm h80
          obtain rfl := Eq.symm h86
          obtain rfl := Eq.symm h92
          obtain rfl := Eq.symm h98
          obtain rfl := Eq.symm h100
          refine wo_nil ?_
          refine wg_cond rfl (fun e101 => ?_) (fun e101 => ?_)
          · replace hd2 := sel_t e101 hd2; clear e101
            refine wg_seq ?_
            refine wg_region ?_
            refine wo_v rfl (val_assign (v := (.bool false)) rfl) ?_
            refine wo_nil ?_
            refine wg_ret ?_
            replace hd1 := on_rt hd2 hd1
            replace hd0 := on_rt hd1 hd0
            obtain rfl := Option.some.inj hd0
            refine body_end (D := []) (J := []) (rs := [.tmp 4]) (vs := [(.bool false)]) ((((le4.trans le8).trans le10).trans le61).trans le74) rfl rfl ⟨rfl, trivial⟩ ?_
            exact ⟨rfl, rfl⟩
          · replace hd2 := sel_f e101 hd2; clear e101
            refine wg_skip ?_
            refine wg_seq ?_
            refine wg_region ?_
            refine wo_v rfl (val_assign (v := (.int .i64 0)) rfl) ?_
            refine wo_nil ?_
            refine wg_block ?_
            refine wg_loopS (γ := Nat × Int) true [48, 49, 50, 51, 52, 53, 54, 55, 58, 59, 60, 61, 62, 63, 64, 65, 66, 67, 68, 69, 70, 71, 72, 73, 74, 4, 56, 57, 6] (fun g => [(6, (.int .i64 g.2))]) (fun g => [] ++ A) (fun g R => gauntletref04_Same_L2 N a b x59 g.1 g.2 = some q68 ∧ True) (fun g => g.1) (N, 0) ⟨rfl, trivial⟩ ⟨[], List.Perm.refl _⟩ ⟨hd2, trivial⟩ (fun _ => rfl) ?_
            clear hd2
            rintro ⟨F102, x103⟩ j158 D159 R104 hD160 le105 ⟨hd2, _⟩
            obtain rfl := hD160 rfl
            rcases F102 with _ | F102
            · exact none_elim hd2
            replace hd2 : gauntletref04_Same_L2 N a b x59 (F102 + 1) x103 = some q68 := hd2; rw [gauntletref04_Same_L2] at hd2
            refine wg_seq ?_
            refine wg_seq ?_
            refine wg_region ?_
            refine wo_v rfl (val_move (v := (.int .i64 x103)) rfl) ?_
            refine wo_fieldR rfl fd27_2 pt_Mach2 rfl (h2.mono ((((le8.trans le10).trans le61).trans le74).trans le105)) fun v106 h107 => ?_
            refine wo_loadR rfl ty25 rfl h107 fun v108 h109 => ?_
            refine wo_v rfl (val_move (v := (.int .i64 x59)) rfl) ?_
            have g110 := (gd_some hd2).1; replace hd2 := (gd_some hd2).2
            refine wo_indexR (i := x59.toNat) rfl sl25 rfl (sl_s h109) (idx_nonneg rfl g110.1) (okI_lt g110) fun v111 h112 => ?_
            refine wo_loadR rfl ty50 rfl h112 fun v113 h114 => ?_
            refine wo_v rfl (val_lenR rfl Try.underlying50 rfl (sl_s h114)) ?_
            refine wo_v rfl (val_lss rfl rfl) ?_
            refine wo_nil ?_
            refine wg_cond rfl (fun e115 => ?_) (fun e115 => ?_)
            · replace hd2 := sel_t e115 hd2; clear e115
              refine wg_skip ?_
              refine wg_seq ?_
              refine wg_block ?_
              refine wg_seq ?_
              have g116 := (gd_some hd2).1; replace hd2 := (gd_some hd2).2
              have g117 := (gd_some hd2).1; replace hd2 := (gd_some hd2).2
              have g118 := (gd_some hd2).1; replace hd2 := (gd_some hd2).2
              have g119 := (gd_some hd2).1; replace hd2 := (gd_some hd2).2
              refine wg_drawn 17 [] [phP (tSl false (tSl false kEdge)) a.rows, phR (tSl false (tSl false kEdge)) a.rows, phX (.int .i64 x59), phP (tSl false kEdge) (ix a.rows x59), phR (tSl false kEdge) (ix a.rows x59), phX (.int .i64 x103), phP kEdge (ix (ix a.rows x59) x103), phX (enc_Edge (ix (ix a.rows x59) x103)), phP (tSl false (tSl false kEdge)) b.rows, phR (tSl false (tSl false kEdge)) b.rows, phX (.int .i64 x59), phP (tSl false kEdge) (ix b.rows x59), phR (tSl false kEdge) (ix b.rows x59), phX (.int .i64 x103), phP kEdge (ix (ix b.rows x59) x103), phX (enc_Edge (ix (ix b.rows x59) x103)), phX (.bool (decide (¬ (((ix (ix a.rows x59) x103).to) = ((ix (ix b.rows x59) x103).to) ∧ ((ix (ix a.rows x59) x103).out) = ((ix (ix b.rows x59) x103).out)))))] mixed (by kernel_rfl) (monoOk_of ⟨mono_p, mono_r, mono_x, mono_p, mono_r, mono_x, mono_p, mono_x, mono_p, mono_r, mono_x, mono_p, mono_r, mono_x, mono_p, mono_x, mono_x, trivial⟩) ⟨?_, ?_, ?_, ?_, ?_, ?_, ?_, ?_, ?_, ?_, ?_, ?_, ?_, ?_, ?_, ?_, ?_, trivial⟩ fun R120 le121 => ?_
              · intro l R0q hle ha hd
                have a2 : l 2 = v1 := ha 2 rfl
                exact gstep_plain rfl rfl rfl (ph_fieldR fd27_2 pt_Mach2 a2 ((h2.mono ((((le8.trans le10).trans le61).trans le74).trans le105)).mono hle))
              · intro l R1q hle ha hd
                obtain ⟨d0, _⟩ := hd
                have f58 : phP (tSl false (tSl false kEdge)) a.rows (l 58) R1q := d0 rfl
                exact gstep_plain rfl rfl rfl (ph_loadR ty25 rfl f58)
              · intro l R2q hle ha hd
                have a5 : l 5 = (.int .i64 x59) := ha 5 rfl
                exact gstep_plain rfl rfl rfl (ph_val (val_move a5))
              · intro l R3q hle ha hd
                obtain ⟨d0, d1, _⟩ := hd
                have f59 : phR (tSl false (tSl false kEdge)) a.rows (l 59) R3q := d0 rfl
                have f60 : l 60 = (.int .i64 x59) := d1 rfl
                exact gstep_plain rfl rfl rfl (ph_indexR (i := x59.toNat) sl25 rfl (sl_s f59) (idx_nonneg f60 g116.1) (okI_lt g116))
              · intro l R4q hle ha hd
                obtain ⟨d0, _⟩ := hd
                have f61 : phP (tSl false kEdge) (ix a.rows x59) (l 61) R4q := d0 rfl
                exact gstep_plain rfl rfl rfl (ph_loadR ty50 rfl f61)
              · intro l R5q hle ha hd
                have a6 : l 6 = (.int .i64 x103) := ha 6 rfl
                exact gstep_plain rfl rfl rfl (ph_val (val_move a6))
              · intro l R6q hle ha hd
                obtain ⟨d0, d1, _⟩ := hd
                have f62 : phR (tSl false kEdge) (ix a.rows x59) (l 62) R6q := d0 rfl
                have f63 : l 63 = (.int .i64 x103) := d1 rfl
                exact gstep_plain rfl rfl rfl (ph_indexR (i := x103.toNat) sl50 rfl (sl_s f62) (idx_nonneg f63 g117.1) (okI_lt g117))
              · intro l R7q hle ha hd
                obtain ⟨d0, _⟩ := hd
                have f64 : phP kEdge (ix (ix a.rows x59) x103) (l 64) R7q := d0 rfl
                exact gstep_plain rfl rfl rfl (ph_exact (ph_loadR ty49 rfl f64) (fun _ _ h => vrep_Edge.1 h))
              · intro l R8q hle ha hd
                have a3 : l 3 = v5 := ha 3 rfl
                exact gstep_plain rfl rfl rfl (ph_fieldR fd27_2 pt_Mach2 a3 ((h6.mono (((le10.trans le61).trans le74).trans le105)).mono hle))
              · intro l R9q hle ha hd
                obtain ⟨d0, _⟩ := hd
                have f66 : phP (tSl false (tSl false kEdge)) b.rows (l 66) R9q := d0 rfl
                exact gstep_plain rfl rfl rfl (ph_loadR ty25 rfl f66)
              · intro l R10q hle ha hd
                have a5 : l 5 = (.int .i64 x59) := ha 5 rfl
                exact gstep_plain rfl rfl rfl (ph_val (val_move a5))
              · intro l R11q hle ha hd
                obtain ⟨d0, d1, _⟩ := hd
                have f67 : phR (tSl false (tSl false kEdge)) b.rows (l 67) R11q := d0 rfl
                have f68 : l 68 = (.int .i64 x59) := d1 rfl
                exact gstep_plain rfl rfl rfl (ph_indexR (i := x59.toNat) sl25 rfl (sl_s f67) (idx_nonneg f68 g118.1) (okI_lt g118))
              · intro l R12q hle ha hd
                obtain ⟨d0, _⟩ := hd
                have f69 : phP (tSl false kEdge) (ix b.rows x59) (l 69) R12q := d0 rfl
                exact gstep_plain rfl rfl rfl (ph_loadR ty50 rfl f69)
              · intro l R13q hle ha hd
                have a6 : l 6 = (.int .i64 x103) := ha 6 rfl
                exact gstep_plain rfl rfl rfl (ph_val (val_move a6))
              · intro l R14q hle ha hd
                obtain ⟨d0, d1, _⟩ := hd
                have f70 : phR (tSl false kEdge) (ix b.rows x59) (l 70) R14q := d0 rfl
                have f71 : l 71 = (.int .i64 x103) := d1 rfl
                exact gstep_plain rfl rfl rfl (ph_indexR (i := x103.toNat) sl50 rfl (sl_s f70) (idx_nonneg f71 g119.1) (okI_lt g119))
              · intro l R15q hle ha hd
                obtain ⟨d0, _⟩ := hd
                have f72 : phP kEdge (ix (ix b.rows x59) x103) (l 72) R15q := d0 rfl
                exact gstep_plain rfl rfl rfl (ph_exact (ph_loadR ty49 rfl f72) (fun _ _ h => vrep_Edge.1 h))
              · intro l R16q hle ha hd
                obtain ⟨d0, d1, _⟩ := hd
                have f65 : l 65 = (enc_Edge (ix (ix a.rows x59) x103)) := d0 rfl
                have f73 : l 73 = (enc_Edge (ix (ix b.rows x59) x103)) := d1 rfl
                exact gstep_plain rfl rfl rfl (ph_val (val_neq2 eq49 f65 f73))
              intro v122 h123
              intro v124 h125
              intro v126 h127
              intro v128 h129
              intro v130 h131
              intro v132 h133
              intro v134 h135
              intro v136 h137
              intro v138 h139
              intro v140 h141
              intro v142 h143
              intro v144 h145
              intro v146 h147
              intro v148 h149
              intro v150 h151
              intro v152 h153
              intro v154 h155
              obtain rfl := Eq.symm h127
              obtain rfl := Eq.symm h133
              obtain rfl := Eq.symm h137
              obtain rfl := Eq.symm h143
              obtain rfl := Eq.symm h149
              obtain rfl := Eq.symm h153
              obtain rfl := Eq.symm h155
              refine wo_nil ?_
              refine wg_cond rfl (fun e156 => ?_) (fun e156 => ?_)
              · replace hd2 := sel_t e156 hd2; clear e156
                refine wg_seq ?_
                refine wg_region ?_
                refine wo_v rfl (val_assign (v := (.bool false)) rfl) ?_
                refine wo_nil ?_
                refine wg_ret ?_
                replace hd1 := on_rt hd2 hd1
                replace hd0 := on_rt hd1 hd0
                obtain rfl := Option.some.inj hd0
                refine body_end (D := []) (J := []) (rs := [.tmp 4]) (vs := [(.bool false)]) ((((((le4.trans le8).trans le10).trans le61).trans le74).trans le105).trans le121) rfl rfl ⟨rfl, trivial⟩ ?_
                exact ⟨rfl, rfl⟩
              · replace hd2 := sel_f e156 hd2; clear e156
                refine wg_skip ?_
                refine wg_region ?_
                refine wo_v rfl (val_move (v := (.int .i64 x103)) rfl) ?_
                have g157 := (gd_some hd2).1; replace hd2 := (gd_some hd2).2
                refine wo_v rfl (val_add rfl rfl g157) ?_
                refine wo_v rfl (val_assign (v := (.int .i64 (x103 + 1))) rfl) ?_
                refine wo_nil ?_
                exact ⟨(fun _ => rfl), le121, (by repeat (first | exact off_self | refine off_upd rfl ?_ | refine off_setl rfl ?_ | refine off_mask_sub rfl ?_)), (F102, x103 + 1), Nat.lt_succ_self _, ⟨rfl, trivial⟩, ⟨[], List.Perm.refl _⟩, hd2, trivial⟩
            · replace hd2 := sel_f e115 hd2; clear e115
              refine wg_exit ?_
              exact ⟨(fun _ => rfl), (le74.trans le105), (by repeat (first | exact off_self | refine off_upd rfl ?_ | refine off_setl rfl ?_ | refine off_mask_sub rfl ?_)), (), trivial, ⟨[], List.Perm.refl _⟩, (Option.some.inj hd2).symm, trivial⟩
        ·
          rintro o67 j161 D162 R69 hD163 le70 ⟨rfl, _⟩
          obtain rfl := hD163 rfl
          replace hd1 := on_go hd1
          refine wg_region ?_
          refine wo_v rfl (val_move (v := (.int .i64 x59)) rfl) ?_
          have g164 := (gd_some hd1).1; replace hd1 := (gd_some hd1).2
          refine wo_v rfl (val_add rfl rfl g164) ?_
          refine wo_v rfl (val_assign (v := (.int .i64 (x59 + 1))) rfl) ?_
          refine wo_nil ?_
          exact ⟨(fun _ => rfl), le70, (by repeat (first | exact off_self | refine off_upd rfl ?_ | refine off_setl rfl ?_ | refine off_mask_sub rfl ?_)), (F58, x59 + 1), Nat.lt_succ_self _, ⟨rfl, trivial⟩, ⟨[], List.Perm.refl _⟩, hd1, trivial⟩
      · replace hd1 := sel_f e66 hd1; clear e66
        refine wg_exit ?_
        exact ⟨(fun _ => rfl), le61, (by repeat (first | exact off_self | refine off_upd rfl ?_ | refine off_setl rfl ?_ | refine off_mask_sub rfl ?_)), (), trivial, ⟨[], List.Perm.refl _⟩, (Option.some.inj hd1).symm, trivial⟩
    ·
      rintro o54 j168 D169 R56 hD170 le57 ⟨rfl, _⟩
      obtain rfl := hD170 rfl
      replace hd0 := on_go hd0
      refine wg_seq ?_
      refine wg_region ?_
      refine wo_v rfl (val_assign (v := (.bool true)) rfl) ?_
      refine wo_nil ?_
      refine wg_ret ?_
      obtain rfl := Option.some.inj hd0
      refine body_end (D := []) (J := []) (rs := [.tmp 4]) (vs := [(.bool true)]) (((le4.trans le8).trans le10).trans le57) rfl rfl ⟨rfl, trivial⟩ ?_
      exact ⟨rfl, rfl⟩
end GV
end Go.Proofs.Ytncblcdhmcmkmaa
