/- The walks of the functions; printed. -/
import Derived.Test.YtncblcdhmcmkmaaShWe
import Derived.Test.YtncblcdhmcmkmaaShXa
import Derived.Test.YtncblcdhmcmkmaaRows
namespace Go.Proofs.Ytncblcdhmcmkmaa
namespace GV
open Go.IntWalk
set_option linter.unusedVariables false
set_option linter.unusedSimpArgs false
set_option maxRecDepth 100000
set_option maxHeartbeats 20000000
theorem c_gauntletref04_Next {N : Nat} {R : RH} {m : Mach} {v_m : Value} (h_m : VRep (kMach false false) R v_m m) {s : Int} {i : Int} {r : Edge} (hd0 : gauntletref04_Next N m s i = some r) : CallP Try.prog 39 #[v_m, (.int .i64 s), (.int .i64 i)] R (fun v R' => v = (enc_Edge r)) := by
  refine callP_of_wg (args := [v_m, (.int .i64 s), (.int .i64 i)]) Try.func39 rfl rfl fun A => ?_
  rw [gauntletref04_Next] at hd0
  refine wg_seq ?_
  refine wg_region ?_
  refine wo_boxR (T := (kMach false false)) rfl rfl h_m fun v1 R3 le4 h2 => ?_
  refine wo_alloc rfl za49 fun b5 => ?_
  refine wo_nil ?_
  refine wg_seq ?_
  refine wg_seq ?_
  refine wg_region ?_
  refine wo_v rfl (val_move (v := (.int .i64 s)) rfl) ?_
  refine wo_v rfl (val_lss rfl rfl) ?_
  refine wo_nil ?_
  refine wg_cond rfl (fun e7 => ?_) (fun e7 => ?_)
  · replace hd0 := sel_t e7 hd0; clear e7
    refine wg_seq ?_
    refine wg_region ?_
    refine wo_v rfl (val_buildL (ps := [(0, (.int .i64 (-1))), (1, (.int .i64 (-1)))]) (v := (.agg #[(.int .i64 (-1)), (.int .i64 (-1))])) rfl (fun w => by kernel_rfl)) ?_
    refine wo_store (i := 0) (vs := [(.int .i64 (-1)), (.int .i64 (-1))]) sz49 rfl rfl rfl rfl rfl rfl (one_cons rfl (one_cons rfl one_nil)) ?_
    refine wo_nil ?_
    refine wg_ret ?_
    obtain rfl := Option.some.inj hd0
    refine body_end (D := []) (J := [box b5 [(.int .i64 (-1)), (.int .i64 (-1))] 49]) (rs := [.cell 6 49]) (vs := [(.agg #[(.int .i64 (-1)), (.int .i64 (-1))])]) le4 rfl rfl ⟨⟨_, rfl, fun w hh => run_cellA (i := 0) hh rfl rfl ag49 sz49 rfl rfl⟩, trivial⟩ ?_
    exact ⟨rfl, rfl⟩
  · replace hd0 := sel_f e7 hd0; clear e7
    refine wg_skip ?_
    refine wg_seq ?_
    refine wg_region ?_
    refine wo_fieldR rfl fd27_2 pt_Mach2 rfl h2 fun v8 h9 => ?_
    refine wo_loadR rfl ty25 rfl h9 fun v10 h11 => ?_
    refine wo_v rfl (val_move (v := (.int .i64 s)) rfl) ?_
    have g12 := (gd_some hd0).1; replace hd0 := (gd_some hd0).2
    refine wo_indexR (i := s.toNat) rfl sl25 rfl (sl_s h11) (idx_nonneg rfl g12.1) (okI_lt g12) fun v13 h14 => ?_
    refine wo_loadR rfl ty50 rfl h14 fun v15 h16 => ?_
    refine wo_v rfl (val_move (v := (.int .i64 i)) rfl) ?_
    have g17 := (gd_some hd0).1; replace hd0 := (gd_some hd0).2
    refine wo_indexR (i := i.toNat) rfl sl50 rfl (sl_s h16) (idx_nonneg rfl g17.1) (okI_lt g17) fun v18 h19 => ?_
    refine wo_loadR rfl ty49 rfl h19 fun v20 h21 => ?_
    obtain rfl := vrep_Edge.1 h21
    refine wo_store (i := 0) (vs := [(.int .i64 ((ix (ix m.rows s) i).to)), (.int .i64 ((ix (ix m.rows s) i).out))]) sz49 rfl rfl rfl rfl rfl rfl (one_cons rfl (one_cons rfl one_nil)) ?_
    refine wo_nil ?_
    refine wg_ret ?_
    obtain rfl := Option.some.inj hd0
    refine body_end (D := []) (J := [box b5 [(.int .i64 ((ix (ix m.rows s) i).to)), (.int .i64 ((ix (ix m.rows s) i).out))] 49]) (rs := [.cell 6 49]) (vs := [(.agg #[(.int .i64 ((ix (ix m.rows s) i).to)), (.int .i64 ((ix (ix m.rows s) i).out))])]) le4 rfl rfl ⟨⟨_, rfl, fun w hh => run_cellA (i := 0) hh rfl rfl ag49 sz49 rfl rfl⟩, trivial⟩ ?_
    exact ⟨rfl, rfl⟩
theorem en39 : Enters Try.prog 39 := enters_of Try.func39 rfl (by kernel_rfl)
theorem en15 : Enters Try.prog 15 := enters_of Try.func15 rfl (by kernel_rfl)
theorem c_gauntletref04_After_rec {N : Nat} (F : Nat) : ∀ {R : RH} {m : Mach} {v_m : Value} (h_m : VRep (kMach false false) R v_m m) {s : Int} {w_ : (List Int)} {v_w_ : Value} (h_w_ : VRep (tSl false (tInt .i64)) R v_w_ w_) {r : Int} (hd0 : gauntletref04_After N F m s w_ = some r), CallP Try.prog 15 #[v_m, (.int .i64 s), v_w_] R (fun v R' => v = (.int .i64 r)) := by
  induction F with
  | zero => intros; rename_i hd0; exact none_elim hd0
  | succ F ih =>
    intro R m v_m h_m s w_ v_w_ h_w_ r hd0
    refine callP_of_wg (args := [v_m, (.int .i64 s), v_w_]) Try.func15 rfl rfl fun A => ?_
    rw [gauntletref04_After] at hd0
    refine wg_seq ?_
    refine wg_region ?_
    refine wo_boxR (T := (kMach false false)) rfl rfl h_m fun v1 R3 le4 h2 => ?_
    refine wo_v rfl (val_assign (v := (.int .i64 0)) rfl) ?_
    refine wo_nil ?_
    refine wg_seq ?_
    refine wg_seq ?_
    refine wg_region ?_
    refine wo_v rfl (val_move (v := v_w_) rfl) ?_
    refine wo_v rfl (val_lenR rfl Try.underlying36 rfl (sl_s (h_w_.mono le4))) ?_
    refine wo_v rfl (val_eql rfl rfl) ?_
    refine wo_nil ?_
    refine wg_cond rfl (fun e5 => ?_) (fun e5 => ?_)
    · replace hd0 := sel_t e5 hd0; clear e5
      refine wg_seq ?_
      refine wg_region ?_
      refine wo_v rfl (val_move (v := (.int .i64 s)) rfl) ?_
      refine wo_v rfl (val_assign (v := (.int .i64 s)) rfl) ?_
      refine wo_nil ?_
      refine wg_ret ?_
      obtain rfl := Option.some.inj hd0
      refine body_end (D := []) (J := []) (rs := [.tmp 6]) (vs := [(.int .i64 s)]) le4 rfl rfl ⟨rfl, trivial⟩ ?_
      exact ⟨rfl, rfl⟩
    · replace hd0 := sel_f e5 hd0; clear e5
      refine wg_skip ?_
      refine wg_seq ?_
      have g6 := (gd_some hd0).1; replace hd0 := (gd_some hd0).2
      replace hd0 := bd_some hd0; obtain ⟨y7, c8, hd0⟩ := hd0
      have g9 := (gd_some hd0).1; replace hd0 := (gd_some hd0).2
      replace hd0 := bd_some hd0; obtain ⟨y10, c11, hd0⟩ := hd0
      refine wg_drawn 12 [] [phR (kMach false false) m, phR (kMach false false) m, phX (.int .i64 s), phX v_w_, phP (tInt .i64) (ix w_ 0), phX (.int .i64 (ix w_ 0)), phX (enc_Edge y7), phX (.int .i64 y7.to), phX v_w_, phR (tSl false (tInt .i64)) (cut w_ 1 (↑w_.length : Int)), phX (.int .i64 y10), phX (.int .i64 y10)] mixed (by kernel_rfl) (monoOk_of ⟨mono_r, mono_r, mono_x, mono_x, mono_p, mono_x, mono_x, mono_x, mono_x, mono_r, mono_x, mono_x, trivial⟩) ⟨?_, ?_, ?_, ?_, ?_, ?_, ?_, ?_, ?_, ?_, ?_, ?_, trivial⟩ fun R12 le13 => ?_
      · intro l R0q hle ha hd
        have a3 : l 3 = v1 := ha 3 rfl
        exact gstep_plain rfl rfl rfl (ph_loadR ty27 a3 (h2.mono hle))
      · intro l R1q hle ha hd
        have a3 : l 3 = v1 := ha 3 rfl
        exact gstep_plain rfl rfl rfl (ph_loadR ty27 a3 (h2.mono hle))
      · intro l R2q hle ha hd
        have a1 : l 1 = (.int .i64 s) := ha 1 rfl
        exact gstep_plain rfl rfl rfl (ph_val (val_move a1))
      · intro l R3q hle ha hd
        have a2 : l 2 = v_w_ := ha 2 rfl
        exact gstep_plain rfl rfl rfl (ph_val (val_move a2))
      · intro l R4q hle ha hd
        obtain ⟨d0, _⟩ := hd
        have f14 : l 14 = v_w_ := d0 rfl
        exact gstep_plain rfl rfl rfl (ph_indexR (i := (0 : Int).toNat) sl36 f14 (sl_s ((h_w_.mono le4).mono hle)) (idx_nonneg rfl g6.1) (okI_lt g6))
      · intro l R5q hle ha hd
        obtain ⟨d0, _⟩ := hd
        have f15 : phP (tInt .i64) (ix w_ 0) (l 15) R5q := d0 rfl
        exact gstep_plain rfl rfl rfl (ph_exact (ph_loadR ty3 rfl f15) (fun _ _ h => vrep_int.1 h))
      · intro l R6q hle ha hd
        obtain ⟨d0, d1, d2, _⟩ := hd
        have f12 : phR (kMach false false) m (l 12) R6q := d0 rfl
        have f13 : l 13 = (.int .i64 s) := d1 rfl
        have f16 : l 16 = (.int .i64 (ix w_ 0)) := d2 rfl
        exact gstep_plain rfl rfl rfl (ph_callP (vs := [(l 12), (.int .i64 s), (.int .i64 (ix w_ 0))]) en39 (by simp only [List.map, ev, f13, f16] <;> rfl) (c_gauntletref04_Next f12 c8) (fun _ _ h => h))
      · intro l R7q hle ha hd
        obtain ⟨d0, _⟩ := hd
        have f17 : l 17 = (enc_Edge y7) := d0 rfl
        exact gstep_plain rfl rfl rfl (ph_val (val_field (v := (enc_Edge y7)) (u := (.int .i64 y7.to)) f17 (fun w => by kernel_rfl)))
      · intro l R8q hle ha hd
        have a2 : l 2 = v_w_ := ha 2 rfl
        exact gstep_plain rfl rfl rfl (ph_val (val_move a2))
      · intro l R9q hle ha hd
        obtain ⟨d0, _⟩ := hd
        have f19 : l 19 = v_w_ := d0 rfl
        exact gstep_plain rfl rfl rfl (ph_sliceF (lo := (1 : Int).toNat) (hi := (↑w_.length : Int).toNat) (mx := (capOf v_w_)) (X' := (cut w_ 1 (↑w_.length : Int))) sl36 f19 (sl_s ((h_w_.mono le4).mono hle)) (.inr ⟨_, congrArg some (idx_nonneg rfl g9.1)⟩) (.inl ⟨rfl, rfl, rfl⟩) (.inl ⟨rfl, rfl⟩) (okS_1 g9) (okS_2 g9) (fun h => Nat.le_trans (okS_2 g9) h) (fun _ => Nat.le_refl _) rfl)
      · intro l R10q hle ha hd
        obtain ⟨d0, d1, d2, d3, _⟩ := hd
        have f11 : phR (kMach false false) m (l 11) R10q := d0 rfl
        have f18 : l 18 = (.int .i64 y7.to) := d1 rfl
        have f20 : phR (tSl false (tInt .i64)) (cut w_ 1 (↑w_.length : Int)) (l 20) R10q := d2 rfl
        exact gstep_plain rfl rfl rfl (ph_callP (vs := [(l 11), (.int .i64 y7.to), (l 20)]) en15 (by simp only [List.map, ev, f18] <;> rfl) (ih f11 f20 c11) (fun _ _ h => h))
      · intro l R11q hle ha hd
        obtain ⟨d0, d1, d2, d3, d4, d5, d6, d7, d8, d9, d10, d11, d12, _⟩ := hd
        have f21 : l 21 = (.int .i64 y10) := d0 rfl
        exact gstep_plain rfl rfl rfl (ph_val (val_assign f21))
      intro v14 h15
      intro v16 h17
      intro v18 h19
      intro v20 h21
      intro v22 h23
      intro v24 h25
      intro v26 h27
      intro v28 h29
      intro v30 h31
      intro v32 h33
      intro v34 h35
      intro v36 h37
      obtain rfl := Eq.symm h19
      obtain rfl := Eq.symm h21
      obtain rfl := Eq.symm h25
      obtain rfl := Eq.symm h27
      obtain rfl := Eq.symm h29
      obtain rfl := Eq.symm h31
      obtain rfl := Eq.symm h35
      obtain rfl := Eq.symm h37
      refine wo_nil ?_
      refine wg_ret ?_
      obtain rfl := Option.some.inj hd0
      refine body_end (D := []) (J := []) (rs := [.tmp 6]) (vs := [(.int .i64 y10)]) (le4.trans le13) rfl rfl ⟨rfl, trivial⟩ ?_
      exact ⟨rfl, rfl⟩
theorem c_gauntletref04_After {N : Nat} {R : RH} {m : Mach} {v_m : Value} (h_m : VRep (kMach false false) R v_m m) {s : Int} {w_ : (List Int)} {v_w_ : Value} (h_w_ : VRep (tSl false (tInt .i64)) R v_w_ w_) {r : Int} (hd0 : gauntletref04_After N N m s w_ = some r) : CallP Try.prog 15 #[v_m, (.int .i64 s), v_w_] R (fun v R' => v = (.int .i64 r)) := c_gauntletref04_After_rec N h_m h_w_ hd0
theorem c_gauntletref06_next {N : Nat} {R : RH} {w_ : (List Int)} {v_w_ : Value} (h_w_ : VRep (tSl false (tInt .i64)) R v_w_ w_) {inputs : Int} {r : (List Int)} (hd0 : gauntletref06_next N w_ inputs = some r) : CallP Try.prog 46 #[v_w_, (.int .i64 inputs)] R (fun v R' => VRep (tSl false (tInt .i64)) R' v r) := by
  refine callP_of_wg (args := [v_w_, (.int .i64 inputs)]) Try.func46 rfl rfl fun A => ?_
  rw [gauntletref06_next] at hd0
  refine wg_seq ?_
  refine wg_region ?_
  refine wo_v rfl (val_assign (v := (.slice none 0 0)) rfl) ?_
  refine wo_nil ?_
  refine wg_seq ?_
  refine wg_region ?_
  refine wo_lit (T := (tInt .i64)) (X := ([] : List Int)) (ps := []) (css := []) rfl Try.underlying36 zo3 rfl rfl (lit_reps trivial) rfl rfl (by decide) fun v1 f2 cap3 h4 => ?_
  refine wo_v rfl (val_move (v := v_w_) rfl) ?_
  have g6 := (gd_some hd0).1; replace hd0 := (gd_some hd0).2
  refine wo_append (i := 0) (X := ([] : List Int)) (Y := w_) rfl Try.underlying36 zo3 rfl rfl rfl h4 (sl_s h_w_) g6.1 g6.2 fun v7 f8 h9 => ?_
  refine wo_v rfl (val_assign (v := v7) rfl) ?_
  refine wo_nil ?_
  replace hd0 := bd_some hd0; obtain ⟨q11, hd1, hd0⟩ := hd0
  refine wg_meet (γ := (List Int) × Frag) true [10, 11, 12, 6, 13, 14, 17, 18, 19, 20, 21, 22, 23, 24, 25, 26, 27, 28, 29, 30, 4, 31, 32, 33, 15, 16] (fun g => []) (fun g => [g.2] ++ A) (fun g R => q11 = Ex.go g.1 ∧ ORep (tInt .i64) R g.2 v7 g.1 ∧ True) ?_ ?_
  ·
    refine wg_seq ?_
    refine wg_region ?_
    refine wo_v rfl (val_move (v := v7) rfl) ?_
    refine wo_v rfl (val_lenO rfl Try.underlying36 rfl h9) ?_
    have g16 := (gd_some hd1).1; replace hd1 := (gd_some hd1).2
    refine wo_v rfl (val_sub rfl rfl g16) ?_
    refine wo_v rfl (val_assign (v := (.int .i64 ((↑(([] : List Int) ++ w_).length : Int) - 1))) rfl) ?_
    refine wo_nil ?_
    refine wg_block ?_
    refine wg_loopS (γ := Nat × Int × (List Int) × Frag) true [13, 14, 17, 18, 19, 20, 21, 22, 23, 24, 25, 26, 27, 28, 29, 30, 4, 31, 32, 33, 15, 16, 6] (fun g => [(6, (.int .i64 g.2.1))]) (fun g => [g.2.2.2] ++ A) (fun g R => gauntletref06_next_L1 N inputs g.1 g.2.1 g.2.2.1 = some q11 ∧ ORep (tInt .i64) R g.2.2.2 v7 g.2.2.1 ∧ True) (fun g => g.1) (N, (↑(([] : List Int) ++ w_).length : Int) - 1, (([] : List Int) ++ w_), f8) ⟨rfl, trivial⟩ ⟨[], List.Perm.refl _⟩ ⟨hd1, h9, trivial⟩ (fun _ => rfl) ?_
    clear hd1
    rintro ⟨F17, x18, x19, f22⟩ j53 D54 R20 hD55 le21 ⟨hd1, h23, _⟩
    obtain rfl := hD55 rfl
    rcases F17 with _ | F17
    · exact none_elim hd1
    replace hd1 : gauntletref06_next_L1 N inputs (F17 + 1) x18 x19 = some q11 := hd1; rw [gauntletref06_next_L1] at hd1
    refine wg_seq ?_
    refine wg_seq ?_
    refine wg_region ?_
    refine wo_v rfl (val_move (v := (.int .i64 x18)) rfl) ?_
    refine wo_v rfl (val_geq rfl rfl) ?_
    refine wo_nil ?_
    refine wg_cond rfl (fun e24 => ?_) (fun e24 => ?_)
    · replace hd1 := sel_t e24 hd1; clear e24
      refine wg_skip ?_
      refine wg_seq ?_
      refine wg_block ?_
      refine wg_seq ?_
      refine wg_seq ?_
      refine wg_region ?_
      refine wo_v rfl (val_move (v := v7) rfl) ?_
      refine wo_v rfl (val_move (v := (.int .i64 x18)) rfl) ?_
      have g25 := (gd_some hd1).1; replace hd1 := (gd_some hd1).2
      refine wo_indexO (i := x18.toNat) rfl sl36 rfl h23 (idx_nonneg rfl g25.1) (okI_lt g25) fun v26 h27 => ?_
      refine wo_loadO (i := x18.toNat) (j := 0) rfl ty3 h23 rfl rfl h27 (okI_lt g25) fun v28 h29 => ?_
      obtain rfl := vrep_int.1 h29
      have g30 := (gd_some hd1).1; replace hd1 := (gd_some hd1).2
      refine wo_v rfl (val_add rfl rfl g30) ?_
      refine wo_v rfl (val_move (v := (.int .i64 inputs)) rfl) ?_
      refine wo_v rfl (val_lss rfl rfl) ?_
      refine wo_nil ?_
      refine wg_cond rfl (fun e31 => ?_) (fun e31 => ?_)
      · replace hd1 := sel_t e31 hd1; clear e31
        refine wg_seq ?_
        refine wg_region ?_
        refine wo_v rfl (val_move (v := v7) rfl) ?_
        refine wo_v rfl (val_move (v := (.int .i64 x18)) rfl) ?_
        have g32 := (gd_some hd1).1; replace hd1 := (gd_some hd1).2
        refine wo_indexO (i := x18.toNat) rfl sl36 rfl h23 (idx_nonneg rfl g32.1) (okI_lt g32) fun v33 h34 => ?_
        refine wo_loadO (i := x18.toNat) (j := 0) rfl ty3 h23 rfl rfl h34 (okI_lt g32) fun v35 h36 => ?_
        obtain rfl := vrep_int.1 h36
        have g37 := (gd_some hd1).1; replace hd1 := (gd_some hd1).2
        refine wo_v rfl (val_add rfl rfl g37) ?_
        have g38 := (gd_some hd1).1; replace hd1 := (gd_some hd1).2
        refine wo_indexO (i := x18.toNat) rfl sl36 rfl h23 (idx_nonneg rfl g38.1) (okI_lt g38) fun v39 h40 => ?_
        refine wo_storeO (i := x18.toNat) (j := 0) ty3 h23 rfl rfl h40 (okI_lt g38) rfl (vrep_int.2 rfl) fun f41 h42 => ?_
        refine wo_nil ?_
        refine wg_seq ?_
        refine wg_region ?_
        refine wo_v rfl (val_move (v := v7) rfl) ?_
        refine wo_v rfl (val_assign (v := v7) rfl) ?_
        refine wo_nil ?_
        refine wg_freeze (i := 0) rfl h42 fun R43 le44 h45 => ?_
        have h46 : VRep (tSl false (tInt .i64)) R43 v7 (up x19 x18 ((ix x19 x18) + 1)) := (sl_f h45)
        refine wg_ret ?_
        replace hd0 := on_rt hd1 hd0
        obtain rfl := Option.some.inj hd0
        refine body_end (D := []) (J := []) (rs := [.tmp 4]) (vs := [v7]) (le21.trans le44) rfl rfl ⟨rfl, trivial⟩ ?_
        exact ⟨rfl, h46⟩
      · replace hd1 := sel_f e31 hd1; clear e31
        refine wg_skip ?_
        refine wg_region ?_
        refine wo_v rfl (val_move (v := v7) rfl) ?_
        refine wo_v rfl (val_move (v := (.int .i64 x18)) rfl) ?_
        have g47 := (gd_some hd1).1; replace hd1 := (gd_some hd1).2
        refine wo_indexO (i := x18.toNat) rfl sl36 rfl h23 (idx_nonneg rfl g47.1) (okI_lt g47) fun v48 h49 => ?_
        refine wo_storeO (i := x18.toNat) (j := 0) ty3 h23 rfl rfl h49 (okI_lt g47) rfl (vrep_int.2 rfl) fun f50 h51 => ?_
        refine wo_nil ?_
        refine wg_region ?_
        refine wo_v rfl (val_move (v := (.int .i64 x18)) rfl) ?_
        have g52 := (gd_some hd1).1; replace hd1 := (gd_some hd1).2
        refine wo_v rfl (val_sub rfl rfl g52) ?_
        refine wo_v rfl (val_assign (v := (.int .i64 (x18 - 1))) rfl) ?_
        refine wo_nil ?_
        exact ⟨(fun _ => rfl), (RH.le.refl _), (by repeat (first | exact off_self | refine off_upd rfl ?_ | refine off_setl rfl ?_ | refine off_mask_sub rfl ?_)), (F17, x18 - 1, (up x19 x18 0), f50), Nat.lt_succ_self _, ⟨rfl, trivial⟩, ⟨[], List.Perm.refl _⟩, hd1, h51, trivial⟩
    · replace hd1 := sel_f e24 hd1; clear e24
      refine wg_exit ?_
      exact ⟨(fun _ => rfl), le21, (by repeat (first | exact off_self | refine off_upd rfl ?_ | refine off_setl rfl ?_ | refine off_mask_sub rfl ?_)), (x19, f22), trivial, ⟨[], List.Perm.refl _⟩, (Option.some.inj hd1).symm, h23, trivial⟩
  ·
    rintro ⟨o10, f14⟩ j56 D57 R12 hD58 le13 ⟨rfl, h15, _⟩
    obtain rfl := hD58 rfl
    replace hd0 := on_go hd0
    refine wg_seq ?_
    refine wg_region ?_
    refine wo_v rfl (val_move (v := v7) rfl) ?_
    refine wo_lit (T := (tInt .i64)) (X := ([0] : List Int)) (ps := [(0, (.int .i64 0))]) (css := [[(.int .i64 0)]]) rfl Try.underlying36 zo3 rfl rfl (lit_reps ⟨rfl, trivial⟩) rfl rfl (by decide) fun v59 f60 cap61 h62 => ?_
    refine wo_freeze (i := 0) rfl h62 fun R64 le65 h66 => ?_
    have h67 : VRep (tSl true (tInt .i64)) R64 v59 ([0] : List Int) := (sl_t h66 cap61)
    have g68 := (gd_some hd0).1; replace hd0 := (gd_some hd0).2
    refine wo_append (i := 0) (X := o10) (Y := ([0] : List Int)) rfl Try.underlying36 zo3 rfl rfl rfl (h15.mono le65) (sl_s (Sub.v (B := (tSl false (tInt .i64))) (sub_sl Sub.refl (fun _ => rfl)) h67)) g68.1 g68.2 fun v69 f70 h71 => ?_
    refine wo_v rfl (val_assign (v := v69) rfl) ?_
    refine wo_nil ?_
    refine wg_freeze (i := 0) rfl h71 fun R72 le73 h74 => ?_
    have h75 : VRep (tSl false (tInt .i64)) R72 v69 (o10 ++ ([0] : List Int)) := (sl_f h74)
    refine wg_ret ?_
    obtain rfl := Option.some.inj hd0
    refine body_end (D := []) (J := []) (rs := [.tmp 4]) (vs := [v69]) ((le13.trans le65).trans le73) rfl rfl ⟨rfl, trivial⟩ ?_
    exact ⟨rfl, h75⟩
theorem en46 : Enters Try.prog 46 := enters_of Try.func46 rfl (by kernel_rfl)
theorem c_gauntletref06_Paths {N : Nat} {R : RH} {m : Mach} {v_m : Value} (h_m : VRep (kMach false false) R v_m m) {from_ : Int} {r : (List (List Int)) × (List Bool)} (hd0 : gauntletref06_Paths N m from_ = some r) : CallP Try.prog 21 #[v_m, (.int .i64 from_)] R (fun v R' => ∃ u0 u1, v = .tuple #[u0, u1] ∧ VRep (tSl true (tSl false (tInt .i64))) R' u0 r.1 ∧ VRep (tSl true tBool) R' u1 r.2) := by
  refine callP_of_wg (args := [v_m, (.int .i64 from_)]) Try.func21 rfl rfl fun A => ?_
  rw [gauntletref06_Paths] at hd0
  refine wg_seq ?_
  refine wg_region ?_
  refine wo_boxR (T := (kMach false false)) rfl rfl h_m fun v1 R3 le4 h2 => ?_
  refine wo_v rfl (val_assign (v := (.slice none 0 0)) rfl) ?_
  refine wo_v rfl (val_assign (v := (.slice none 0 0)) rfl) ?_
  refine wo_nil ?_
  refine wg_seq ?_
  refine wg_region ?_
  refine wo_fieldR rfl fd27_2 pt_Mach2 rfl h2 fun v5 h6 => ?_
  refine wo_loadR rfl ty25 rfl h6 fun v7 h8 => ?_
  refine wo_v rfl (val_lenR rfl Try.underlying25 rfl (sl_s h8)) ?_
  have g13 := (gd_some hd0).1; replace hd0 := (gd_some hd0).2
  refine wo_make (T := (tSl false (tInt .i64))) (m := (↑m.rows.length : Int).toNat) (c := (↑m.rows.length : Int).toNat) rfl Try.underlying29 zo36 (idx_nonneg rfl g13.1) (idx_nonneg rfl g13.1) (Nat.le_refl _) (okM_b g13) (okM_n g13) fun v9 f10 cap11 h12 => ?_
  refine wo_v rfl (val_assign (v := v9) rfl) ?_
  refine wo_nil ?_
  refine wg_seq ?_
  refine wg_region ?_
  refine wo_fieldR rfl fd27_2 pt_Mach2 rfl h2 fun v15 h16 => ?_
  refine wo_loadR rfl ty25 rfl h16 fun v17 h18 => ?_
  refine wo_v rfl (val_lenR rfl Try.underlying25 rfl (sl_s h18)) ?_
  have g23 := (gd_some hd0).1; replace hd0 := (gd_some hd0).2
  refine wo_make (T := tBool) (m := (↑m.rows.length : Int).toNat) (c := (↑m.rows.length : Int).toNat) rfl Try.underlying30 zo4 (idx_nonneg rfl g23.1) (idx_nonneg rfl g23.1) (Nat.le_refl _) (okM_b g23) (okM_n g23) fun v19 f20 cap21 h22 => ?_
  refine wo_v rfl (val_assign (v := v19) rfl) ?_
  refine wo_nil ?_
  replace hd0 := bd_some hd0; obtain ⟨o25, hd1, hd0⟩ := hd0
  refine wg_meet (γ := (List (List Int) × List Bool) × Frag × Frag) true [18, 8, 19, 20, 21, 22, 23, 24, 29, 30, 31, 32, 9, 33, 34, 35, 36, 37, 38, 39, 40, 41, 42, 43, 44, 45, 46, 47, 48, 25, 26, 27, 28] (fun g => []) (fun g => [g.2.1, g.2.2] ++ A) (fun g R => o25 = g.1 ∧ ORep (tSl false (tInt .i64)) R g.2.1 v9 g.1.1 ∧ capOf v9 = g.1.1.length ∧ ORep tBool R g.2.2 v19 g.1.2 ∧ capOf v19 = g.1.2.length ∧ True) ?_ ?_
  ·
    refine wg_seq ?_
    refine wg_region ?_
    refine wo_lit (T := (tInt .i64)) (X := ([] : List Int)) (ps := []) (css := []) rfl Try.underlying36 zo3 rfl rfl (lit_reps trivial) rfl rfl (by decide) fun v34 f35 cap36 h37 => ?_
    refine wo_v rfl (val_assign (v := v34) rfl) ?_
    refine wo_nil ?_
    refine wg_block ?_
    refine wg_freeze (i := 0) rfl h37 fun R39 le40 h41 => ?_
    have h42 : VRep (tSl true (tInt .i64)) R39 v34 ([] : List Int) := (sl_t h41 cap36)
    refine wg_loopS (γ := Nat × ((List Int)) × (List (List Int)) × (List Bool) × Value × Frag × Frag) true [19, 20, 21, 22, 23, 24, 29, 30, 31, 32, 9, 33, 34, 35, 36, 37, 38, 39, 40, 41, 42, 43, 44, 45, 46, 47, 48, 25, 26, 27, 28, 8] (fun g => [(8, g.2.2.2.2.1)]) (fun g => [g.2.2.2.2.2.1, g.2.2.2.2.2.2] ++ A) (fun g R => gauntletref06_Paths_L1 N m from_ g.1 g.2.1 g.2.2.1 g.2.2.2.1 = some o25 ∧ VRep (tSl false (tInt .i64)) R g.2.2.2.2.1 g.2.1 ∧ ORep (tSl false (tInt .i64)) R g.2.2.2.2.2.1 v9 g.2.2.1 ∧ capOf v9 = g.2.2.1.length ∧ ORep tBool R g.2.2.2.2.2.2 v19 g.2.2.2.1 ∧ capOf v19 = g.2.2.2.1.length ∧ True) (fun g => g.1) (N, ([] : List Int), (mk (↑m.rows.length : Int) ([] : List Int)), (mk (↑m.rows.length : Int) false), v34, f10, f20) ⟨rfl, trivial⟩ ⟨[], (pk 1 rfl (pk 0 rfl (List.Perm.refl _)))⟩ ⟨hd1, (Sub.v (B := (tSl false (tInt .i64))) (sub_sl Sub.refl (fun _ => rfl)) h42), (h12.mono le40), (cap11.trans List.length_replicate.symm), (h22.mono le40), (cap21.trans List.length_replicate.symm), trivial⟩ (fun _ => rfl) ?_
    clear hd1
    rintro ⟨F43, x44, x45, x46, v49, f51, f54⟩ j124 D125 R47 hD126 le48 ⟨hd1, h50, h52, ht53, h55, ht56, _⟩
    obtain rfl := hD126 rfl
    rcases F43 with _ | F43
    · exact none_elim hd1
    replace hd1 : gauntletref06_Paths_L1 N m from_ (F43 + 1) x44 x45 x46 = some o25 := hd1; rw [gauntletref06_Paths_L1] at hd1
    refine wg_seq ?_
    refine wg_seq ?_
    refine wg_region ?_
    refine wo_v rfl (val_move (v := v49) rfl) ?_
    refine wo_v rfl (val_lenR rfl Try.underlying36 rfl (sl_s h50)) ?_
    refine wo_fieldR rfl fd27_2 pt_Mach2 rfl (h2.mono (le40.trans le48)) fun v57 h58 => ?_
    refine wo_loadR rfl ty25 rfl h58 fun v59 h60 => ?_
    refine wo_v rfl (val_lenR rfl Try.underlying25 rfl (sl_s h60)) ?_
    refine wo_v rfl (val_lss rfl rfl) ?_
    refine wo_nil ?_
    refine wg_cond rfl (fun e61 => ?_) (fun e61 => ?_)
    · replace hd1 := sel_t e61 hd1; clear e61
      refine wg_skip ?_
      replace hd1 := bd_some hd1; obtain ⟨o62, hd2, hd1⟩ := hd1
      refine wg_meet (γ := (List (List Int) × List Bool) × Frag × Frag) true [29, 30, 31, 32, 9, 33, 34, 35, 36, 37, 38, 39, 40, 41, 42, 43, 44, 45, 46, 47, 48] (fun g => []) (fun g => [g.2.1, g.2.2] ++ A) (fun g R => o62 = g.1 ∧ ORep (tSl false (tInt .i64)) R g.2.1 v9 g.1.1 ∧ capOf v9 = g.1.1.length ∧ ORep tBool R g.2.2 v19 g.1.2 ∧ capOf v19 = g.1.2.length ∧ True) ?_ ?_
      ·
        refine wg_block ?_
        refine wg_seq ?_
        refine wg_region ?_
        refine wo_loadR rfl ty27 rfl (h2.mono (le40.trans le48)) fun v71 h72 => ?_
        refine wo_v rfl (val_move (v := (.int .i64 from_)) rfl) ?_
        refine wo_v rfl (val_move (v := v49) rfl) ?_
        replace hd2 := bd_some hd2; obtain ⟨y73, c74, hd2⟩ := hd2
        refine wo_callP rfl en15 rfl (c_gauntletref04_After h72 h50 c74) fun v75 R77 le78 h76 => ?_
        obtain rfl := h76
        refine wo_v rfl (val_assign (v := (.int .i64 y73)) rfl) ?_
        refine wo_nil ?_
        refine wg_seq ?_
        have g79 := (gd_some hd2).1; replace hd2 := (gd_some hd2).2
        refine wg_guarded 9 [] [phX (.int .i64 y73), phX (.bool (decide (0 ≤ y73))), phX (.bool (decide (0 ≤ y73))), phG (true && ((decide (0 ≤ y73)) == true)) (phX v19), phG (true && ((decide (0 ≤ y73)) == true)) (phX (.int .i64 y73)), phG (true && ((decide (0 ≤ y73)) == true)) ((fun u _ => OPtr tBool v19 x46 u y73.toNat)), phG (true && ((decide (0 ≤ y73)) == true)) (phX (.bool (ix x46 y73))), phG (true && ((decide (0 ≤ y73)) == true)) (phX (.bool (!(ix x46 y73)))), phX (.bool ((decide (0 ≤ y73)) && (!(ix x46 y73))))] (by kernel_rfl) (by kernel_rfl) (monoOk_of ⟨mono_x, mono_x, mono_x, (mono_g mono_x), (mono_g mono_x), (mono_g (fun _ _ _ _ h => h)), (mono_g mono_x), (mono_g mono_x), mono_x, trivial⟩) ⟨?_, ?_, ?_, ?_, ?_, ?_, ?_, ?_, ?_, trivial⟩ fun R80 le81 => ?_
        · intro l R0q hle ha hd
          have a9 : l 9 = (.int .i64 y73) := ha 9 rfl
          exact gstep_plain rfl rfl rfl (ph_val (val_move a9))
        · intro l R1q hle ha hd
          obtain ⟨d0, _⟩ := hd
          have f33 : l 33 = (.int .i64 y73) := d0 rfl
          exact gstep_plain rfl rfl rfl (ph_val (val_geq f33 rfl))
        · intro l R2q hle ha hd
          obtain ⟨d0, _⟩ := hd
          have f34 : l 34 = (.bool (decide (0 ≤ y73))) := d0 rfl
          exact gstep_plain rfl rfl rfl (ph_val (val_move f34))
        · intro l R3q hle ha hd
          obtain ⟨d0, _⟩ := hd
          have a7 : l 7 = v19 := ha 7 rfl
          exact gstep_guard (Gj := true) (Bj := decide (0 ≤ y73)) rfl rfl rfl (gtrue (d0 rfl)) rfl (fun hG hB => ph_val (val_move a7))
        · intro l R4q hle ha hd
          obtain ⟨d0, _⟩ := hd
          have a9 : l 9 = (.int .i64 y73) := ha 9 rfl
          exact gstep_guard (Gj := true) (Bj := decide (0 ≤ y73)) rfl rfl rfl (gtrue (d0 rfl)) rfl (fun hG hB => ph_val (val_move a9))
        · intro l R5q hle ha hd
          obtain ⟨d0, d1, d2, _⟩ := hd
          have f36g : phG (true && ((decide (0 ≤ y73)) == true)) (phX v19) (l 36) R5q := d0 rfl
          have f37g : phG (true && ((decide (0 ≤ y73)) == true)) (phX (.int .i64 y73)) (l 37) R5q := d1 rfl
          exact gstep_guard (Gj := true) (Bj := decide (0 ≤ y73)) rfl rfl rfl (gtrue (d2 rfl)) rfl (fun hG hB => ph_indexO (i := y73.toNat) sl30 (show l 36 = v19 from f36g.1 (gandT rfl hB)) ((h55.mono le78).mono hle) (idx_nonneg (show l 37 = (.int .i64 y73) from f37g.1 (gandT rfl hB)) (g79 (gandT hG hB)).1) (okI_lt (g79 (gandT hG hB))))
        · intro l R6q hle ha hd
          obtain ⟨d0, d1, _⟩ := hd
          have f38g : phG (true && ((decide (0 ≤ y73)) == true)) ((fun u _ => OPtr tBool v19 x46 u y73.toNat)) (l 38) R6q := d0 rfl
          exact gstep_guard (Gj := true) (Bj := decide (0 ≤ y73)) rfl rfl rfl (gtrue (d1 rfl)) rfl (fun hG hB => ph_exact (ph_loadO (i := y73.toNat) (j := 1) ty4 ((h55.mono le78).mono hle) rfl rfl (f38g.1 (gandT rfl hB)) (okI_lt (g79 (gandT hG hB)))) (fun _ _ h => vrep_bool.1 h))
        · intro l R7q hle ha hd
          obtain ⟨d0, d1, _⟩ := hd
          have f39g : phG (true && ((decide (0 ≤ y73)) == true)) (phX (.bool (ix x46 y73))) (l 39) R7q := d0 rfl
          exact gstep_guard (Gj := true) (Bj := decide (0 ≤ y73)) rfl rfl rfl (gtrue (d1 rfl)) rfl (fun hG hB => ph_val (val_not (show l 39 = (.bool (ix x46 y73)) from f39g.1 (gandT rfl hB))))
        · intro l R8q hle ha hd
          obtain ⟨d0, d1, _⟩ := hd
          have f35 : l 35 = (.bool (decide (0 ≤ y73))) := d0 rfl
          have f40g : phG (true && ((decide (0 ≤ y73)) == true)) (phX (.bool (!(ix x46 y73)))) (l 40) R8q := d1 rfl
          exact gstep_plain rfl rfl rfl (ph_val (val_and f35 (fun hb => (show l 40 = (.bool (!(ix x46 y73))) from f40g.1 (gandT rfl hb))) rfl))
        intro v82 h83
        intro v84 h85
        intro v86 h87
        intro v88 h89
        intro v90 h91
        intro v92 h93
        intro v94 h95
        intro v96 h97
        intro v98 h99
        obtain rfl := Eq.symm h83
        obtain rfl := Eq.symm h85
        obtain rfl := Eq.symm h87
        obtain rfl := Eq.symm h99
        refine wo_nil ?_
        refine wg_cond rfl (fun e100 => ?_) (fun e100 => ?_)
        · replace hd2 := sel_t e100 hd2; clear e100
          refine wg_seq ?_
          refine wg_region ?_
          refine wo_v rfl (val_move (v := v19) rfl) ?_
          refine wo_v rfl (val_move (v := (.int .i64 y73)) rfl) ?_
          have g101 := (gd_some hd2).1; replace hd2 := (gd_some hd2).2
          refine wo_indexO (i := y73.toNat) rfl sl30 rfl (h55.mono (le78.trans le81)) (idx_nonneg rfl g101.1) (okI_lt g101) fun v102 h103 => ?_
          refine wo_storeO (i := y73.toNat) (j := 1) ty4 (h55.mono (le78.trans le81)) rfl rfl h103 (okI_lt g101) rfl (vrep_bool.2 rfl) fun f104 h105 => ?_
          refine wo_nil ?_
          refine wg_region ?_
          refine wo_v rfl (val_move (v := v9) rfl) ?_
          refine wo_v rfl (val_move (v := (.int .i64 y73)) rfl) ?_
          refine wo_v rfl (val_move (v := v49) rfl) ?_
          have g106 := (gd_some hd2).1; replace hd2 := (gd_some hd2).2
          refine wo_indexO (i := y73.toNat) rfl sl29 rfl (h52.mono (le78.trans le81)) (idx_nonneg rfl g106.1) (okI_lt g106) fun v107 h108 => ?_
          refine wo_storeO (i := y73.toNat) (j := 0) ty36 (h52.mono (le78.trans le81)) rfl rfl h108 (okI_lt g106) rfl (h50.mono (le78.trans le81)) fun f109 h110 => ?_
          refine wo_nil ?_
          exact ⟨(fun _ => rfl), (le78.trans le81), (by repeat (first | exact off_self | refine off_upd rfl ?_ | refine off_setl rfl ?_ | refine off_mask_sub rfl ?_)), (((up x45 y73 x44), (up x46 y73 true)), f109, f104), trivial, ⟨[], List.Perm.refl _⟩, (Option.some.inj hd2).symm, h110, (ht53.trans List.length_set.symm), h105, (ht56.trans List.length_set.symm), trivial⟩
        · replace hd2 := sel_f e100 hd2; clear e100
          refine wg_skip ?_
          exact ⟨(fun _ => rfl), (le78.trans le81), (by repeat (first | exact off_self | refine off_upd rfl ?_ | refine off_setl rfl ?_ | refine off_mask_sub rfl ?_)), ((x45, x46), f51, f54), trivial, ⟨[], List.Perm.refl _⟩, (Option.some.inj hd2).symm, (h52.mono (le78.trans le81)), ht53, (h55.mono (le78.trans le81)), ht56, trivial⟩
      ·
        rintro ⟨o62, f65, f68⟩ j111 D112 R63 hD113 le64 ⟨rfl, h66, ht67, h69, ht70, _⟩
        obtain rfl := hD113 rfl
        refine wg_region ?_
        refine wo_v rfl (val_move (v := v49) rfl) ?_
        refine wo_fieldR rfl fd27_0 pt_Mach0 rfl (h2.mono ((le40.trans le48).trans le64)) fun v114 h115 => ?_
        refine wo_loadR rfl ty3 rfl h115 fun v116 h117 => ?_
        obtain rfl := vrep_int.1 h117
        replace hd1 := bd_some hd1; obtain ⟨y118, c119, hd1⟩ := hd1
        refine wo_callP rfl en46 rfl (c_gauntletref06_next (h50.mono le64) c119) fun v120 R122 le123 h121 => ?_
        refine wo_v rfl (val_assign (v := v120) rfl) ?_
        refine wo_nil ?_
        exact ⟨(fun _ => rfl), (le64.trans le123), (by repeat (first | exact off_self | refine off_upd rfl ?_ | refine off_setl rfl ?_ | refine off_mask_sub rfl ?_)), (F43, y118, o62.1, o62.2, v120, f65, f68), Nat.lt_succ_self _, ⟨rfl, trivial⟩, ⟨[], List.Perm.refl _⟩, hd1, h121, (h66.mono le123), ht67, (h69.mono le123), ht70, trivial⟩
    · replace hd1 := sel_f e61 hd1; clear e61
      refine wg_exit ?_
      exact ⟨(fun _ => rfl), (le40.trans le48), (by repeat (first | exact off_self | refine off_upd rfl ?_ | refine off_setl rfl ?_ | refine off_mask_sub rfl ?_)), ((x45, x46), f51, f54), trivial, ⟨[], List.Perm.refl _⟩, (Option.some.inj hd1).symm, h52, ht53, h55, ht56, trivial⟩
  ·
    rintro ⟨o25, f28, f31⟩ j127 D128 R26 hD129 le27 ⟨rfl, h29, ht30, h32, ht33, _⟩
    obtain rfl := hD129 rfl
    refine wg_seq ?_
    refine wg_region ?_
    refine wo_v rfl (val_move (v := v9) rfl) ?_
    refine wo_v rfl (val_move (v := v19) rfl) ?_
    refine wo_v rfl (val_assign (v := v9) rfl) ?_
    refine wo_v rfl (val_assign (v := v19) rfl) ?_
    refine wo_nil ?_
    refine wg_freeze (i := 0) rfl h29 fun R130 le131 h132 => ?_
    have h133 : VRep (tSl true (tSl false (tInt .i64))) R130 v9 o25.1 := (sl_t h132 ht30)
    refine wg_freeze (i := 0) rfl (h32.mono le131) fun R134 le135 h136 => ?_
    have h137 : VRep (tSl true tBool) R134 v19 o25.2 := (sl_t h136 ht33)
    refine wg_ret ?_
    obtain rfl := Option.some.inj hd0
    refine body_end (D := []) (J := []) (rs := [.tmp 4, .tmp 5]) (vs := [v9, v19]) (((le4.trans le27).trans le131).trans le135) rfl rfl ⟨rfl, rfl, trivial⟩ ?_
    exact ⟨rfl, ⟨v9, v19, rfl, (h133.mono le135), h137⟩⟩
theorem en21 : Enters Try.prog 21 := enters_of Try.func21 rfl (by kernel_rfl)
end GV
end Go.Proofs.Ytncblcdhmcmkmaa
