/- The walks of the functions; printed. -/
import Derived.Test.YtncblcdhmcmkmaaShPlain
import Derived.Test.YtncblcdhmcmkmaaRows
namespace Go.Proofs.Ytncblcdhmcmkmaa
namespace GV
open Go.IntWalk
set_option linter.unusedVariables false
set_option linter.unusedSimpArgs false
set_option maxRecDepth 100000
set_option maxHeartbeats 20000000
theorem za27 : ∀ w, ∃ z, (zeroValue 27).run Try.prog w = .ok z w ∧ z.cells = ([.int .i64 0, .int .i64 0, .slice none 0 0] : List Value).toArray := fun w => ⟨(.agg #[(.int .i64 0), (.int .i64 0), (.slice none 0 0)]), by kernel_rfl, rfl⟩
theorem ty5 : TyOk Try.prog 5 (tInt .u8) := by
  obtain ⟨i, hi, hs⟩ : ∃ i, Try.prog.info? 5 = some i ∧ i.size = 1 := info_size (by kernel_rfl)
  exact tyOk_of Try.underlying5 hi rfl hs
theorem sz27 : ∀ w, (sizeOf 27).run Try.prog w = .ok 3 w := fun w => by kernel_rfl
theorem fd27_0 : FieldOk Try.prog 27 0 0 := by
  obtain ⟨i, hi, hs⟩ : ∃ i, Try.prog.info? 3 = some i ∧ i.size = 1 := info_size (by kernel_rfl)
  exact fieldOk_of Try.underlying27 rfl rfl hi (by rw [hs]; rfl)
theorem ag3 : ∀ w, (isAgg 3).run Try.prog w = .ok false w := fun w => by kernel_rfl
theorem ty22 {b0 : Bool} : TyOk Try.prog 22 (tSl b0 (tInt .u16)) := by
  obtain ⟨i, hi, hs⟩ : ∃ i, Try.prog.info? 22 = some i ∧ i.size = 1 := info_size (by kernel_rfl)
  exact tyOk_of Try.underlying22 hi rfl hs
theorem ty80 : TyOk Try.prog 80 (tInt .u16) := by
  obtain ⟨i, hi, hs⟩ : ∃ i, Try.prog.info? 80 = some i ∧ i.size = 1 := info_size (by kernel_rfl)
  exact tyOk_of Try.underlying80 hi rfl hs
theorem sl22 : SlOk Try.prog 22 80 (tInt .u16) := ⟨Try.underlying22, ty80⟩
theorem ty4 : TyOk Try.prog 4 tBool := by
  obtain ⟨i, hi, hs⟩ : ∃ i, Try.prog.info? 4 = some i ∧ i.size = 1 := info_size (by kernel_rfl)
  exact tyOk_of Try.underlying4 hi rfl hs
theorem zo49 : ZeroOk Try.prog 49 kEdge (⟨(0 : Int), (0 : Int)⟩ : Edge) 16 := by
  obtain ⟨i, zv, hi, hz, hs, hb, hv⟩ := info_zero (P := Try.prog) (e := 49) (zv := (.agg #[(.int .i64 0), (.int .i64 0)])) (k := 2) (b := 16) (by kernel_rfl)
  exact ⟨i, zv, hi, hz, hs, hb, fun R => by subst hv; exact ⟨_, _, rfl, rfl, rfl⟩⟩
theorem fd27_1 : FieldOk Try.prog 27 1 1 := by
  obtain ⟨i, hi, hs⟩ : ∃ i, Try.prog.info? 3 = some i ∧ i.size = 1 := info_size (by kernel_rfl)
  exact fieldOk_of Try.underlying27 rfl rfl hi (by rw [hs]; rfl)
theorem mixed : Try.prog.follows .mixedOrders = true := by kernel_rfl
theorem fd27_2 : FieldOk Try.prog 27 2 2 := by
  obtain ⟨i, hi, hs⟩ : ∃ i, Try.prog.info? 25 = some i ∧ i.size = 1 := info_size (by kernel_rfl)
  exact fieldOk_of Try.underlying27 rfl rfl hi (by rw [hs]; rfl)
theorem ag25 : ∀ w, (isAgg 25).run Try.prog w = .ok false w := fun w => by kernel_rfl
theorem zo50 {b0 : Bool} : ZeroOk Try.prog 50 (tSl b0 kEdge) ([] : List Edge) 24 := by
  obtain ⟨i, zv, hi, hz, hs, hb, hv⟩ := info_zero (P := Try.prog) (e := 50) (zv := (.slice none 0 0)) (k := 1) (b := 24) (by kernel_rfl)
  exact ⟨i, zv, hi, hz, hs, hb, fun R => by subst hv; exact (rep_one rfl sl_nil)⟩
theorem sz25 : ∀ w, (sizeOf 25).run Try.prog w = .ok 1 w := fun w => by kernel_rfl
theorem ag27 : ∀ w, (isAgg 27).run Try.prog w = .ok true w := fun w => by kernel_rfl
theorem ty27 {b0 b1 : Bool} : TyOk Try.prog 27 (kMach b0 b1) := by
  obtain ⟨i, hi, hs⟩ : ∃ i, Try.prog.info? 27 = some i ∧ i.size = 3 := info_size (by kernel_rfl)
  exact tyOk_of Try.underlying27 hi rfl hs
theorem ty3 : TyOk Try.prog 3 (tInt .i64) := by
  obtain ⟨i, hi, hs⟩ : ∃ i, Try.prog.info? 3 = some i ∧ i.size = 1 := info_size (by kernel_rfl)
  exact tyOk_of Try.underlying3 hi rfl hs
theorem ty25 {b0 b1 : Bool} : TyOk Try.prog 25 (tSl b0 (tSl b1 kEdge)) := by
  obtain ⟨i, hi, hs⟩ : ∃ i, Try.prog.info? 25 = some i ∧ i.size = 1 := info_size (by kernel_rfl)
  exact tyOk_of Try.underlying25 hi rfl hs
theorem ty50 {b0 : Bool} : TyOk Try.prog 50 (tSl b0 kEdge) := by
  obtain ⟨i, hi, hs⟩ : ∃ i, Try.prog.info? 50 = some i ∧ i.size = 1 := info_size (by kernel_rfl)
  exact tyOk_of Try.underlying50 hi rfl hs
theorem sl25 {b0 : Bool} : SlOk Try.prog 25 50 (tSl b0 kEdge) := ⟨Try.underlying25, ty50⟩
theorem ty49 : TyOk Try.prog 49 kEdge := by
  obtain ⟨i, hi, hs⟩ : ∃ i, Try.prog.info? 49 = some i ∧ i.size = 2 := info_size (by kernel_rfl)
  exact tyOk_of Try.underlying49 hi rfl hs
theorem sl50 : SlOk Try.prog 50 49 kEdge := ⟨Try.underlying50, ty49⟩
theorem c_slices_IndexFunc_api_Edge {N : Nat} {R : RH} {s : (List Edge)} {v_s : Value} (h_s : VRep (tSl false kEdge) R v_s s) {f : Edge → Option Bool} {v_f : Value} (h_f : FOk1 Try.prog R v_f kEdge tBool f) {r : Int} (hd0 : slices_IndexFunc_api_Edge N s f = some r) : CallP Try.prog 70 #[v_s, v_f] R (fun v R' => v = (.int .i64 r)) := by
  refine callP_of_wg (args := [v_s, v_f]) Try.func70 rfl rfl fun A => ?_
  rw [slices_IndexFunc_api_Edge] at hd0
  refine wg_seq ?_
  refine wg_region ?_
  refine wo_v rfl (val_assign (v := (.int .i64 0)) rfl) ?_
  refine wo_nil ?_
  replace hd0 := bd_some hd0; obtain ⟨q2, hd1, hd0⟩ := hd0
  refine wg_meet (γ := Unit) true [6, 7, 8, 9, 10, 5, 11, 12, 13, 14, 15, 16, 17, 4, 18] (fun g => []) (fun g => [] ++ A) (fun g R => q2 = Ex.go g ∧ True) ?_ ?_
  ·
    refine wg_seq ?_
    refine wg_region ?_
    refine wo_v rfl (val_move (v := v_s) rfl) ?_
    refine wo_v rfl (val_lenR rfl Try.underlying50 rfl (sl_s h_s)) ?_
    refine wo_v rfl (val_move (v := (.int .i64 0)) rfl) ?_
    refine wo_nil ?_
    refine wg_block ?_
    refine wg_loopS (γ := Nat × Int) true [9, 10, 5, 11, 12, 13, 14, 15, 16, 17, 4, 18, 8] (fun g => [(8, (.int .i64 g.2))]) (fun g => [] ++ A) (fun g R => slices_IndexFunc_api_Edge_L1 N s f g.1 g.2 = some q2 ∧ True) (fun g => g.1) (N, 0) ⟨rfl, trivial⟩ ⟨[], List.Perm.refl _⟩ ⟨hd1, trivial⟩ (fun _ => rfl) ?_
    clear hd1
    rintro ⟨F5, x6⟩ j23 D24 R7 hD25 le8 ⟨hd1, _⟩
    obtain rfl := hD25 rfl
    rcases F5 with _ | F5
    · exact none_elim hd1
    replace hd1 : slices_IndexFunc_api_Edge_L1 N s f (F5 + 1) x6 = some q2 := hd1; rw [slices_IndexFunc_api_Edge_L1] at hd1
    refine wg_seq ?_
    refine wg_region ?_
    refine wo_v rfl (val_lss rfl rfl) ?_
    refine wo_nil ?_
    refine wg_seq ?_
    refine wg_cond rfl (fun e9 => ?_) (fun e9 => ?_)
    · replace hd1 := sel_t e9 hd1; clear e9
      refine wg_skip ?_
      refine wg_seq ?_
      refine wg_block ?_
      refine wg_seq ?_
      refine wg_region ?_
      refine wo_v rfl (val_move (v := (.int .i64 x6)) rfl) ?_
      refine wo_v rfl (val_assign (v := (.int .i64 x6)) rfl) ?_
      refine wo_nil ?_
      refine wg_seq ?_
      refine wg_region ?_
      refine wo_v rfl (val_move (v := v_f) rfl) ?_
      refine wo_v rfl (val_move (v := v_s) rfl) ?_
      refine wo_v rfl (val_move (v := (.int .i64 x6)) rfl) ?_
      have g10 := (gd_some hd1).1; replace hd1 := (gd_some hd1).2
      refine wo_indexR (i := x6.toNat) rfl sl50 rfl (sl_s (h_s.mono le8)) (idx_nonneg rfl g10.1) (okI_lt g10) fun v11 h12 => ?_
      refine wo_loadR rfl ty49 rfl h12 fun v13 h14 => ?_
      obtain rfl := vrep_Edge.1 h14
      replace hd1 := bd_some hd1; obtain ⟨y15, c16, hd1⟩ := hd1
      refine wo_callF rfl rfl rfl ((h_f.mono le8) _ (RH.le.refl _) (ix s x6) _ _ (vrep_Edge.2 rfl) c16) fun v19 R17 le18 h20 => ?_
      obtain rfl := vrep_bool.1 h20
      refine wo_nil ?_
      refine wg_cond rfl (fun e21 => ?_) (fun e21 => ?_)
      · replace hd1 := sel_t e21 hd1; clear e21
        refine wg_seq ?_
        refine wg_region ?_
        refine wo_v rfl (val_move (v := (.int .i64 x6)) rfl) ?_
        refine wo_v rfl (val_assign (v := (.int .i64 x6)) rfl) ?_
        refine wo_nil ?_
        refine wg_ret ?_
        replace hd0 := on_rt hd1 hd0
        obtain rfl := Option.some.inj hd0
        refine body_end (D := []) (J := []) (rs := [.tmp 4]) (vs := [(.int .i64 x6)]) (le8.trans le18) rfl rfl ⟨rfl, trivial⟩ ?_
        exact ⟨rfl, rfl⟩
      · replace hd1 := sel_f e21 hd1; clear e21
        refine wg_skip ?_
        refine wg_region ?_
        have g22 := (gd_some hd1).1; replace hd1 := (gd_some hd1).2
        refine wo_v rfl (val_add rfl rfl g22) ?_
        refine wo_v rfl (val_move (v := (.int .i64 (x6 + 1))) rfl) ?_
        refine wo_nil ?_
        exact ⟨(fun _ => rfl), le18, (by repeat (first | exact off_self | refine off_upd rfl ?_ | refine off_setl rfl ?_ | refine off_mask_sub rfl ?_)), (F5, x6 + 1), Nat.lt_succ_self _, ⟨rfl, trivial⟩, ⟨[], List.Perm.refl _⟩, hd1, trivial⟩
    · replace hd1 := sel_f e9 hd1; clear e9
      refine wg_exit ?_
      exact ⟨(fun _ => rfl), le8, (by repeat (first | exact off_self | refine off_upd rfl ?_ | refine off_setl rfl ?_ | refine off_mask_sub rfl ?_)), (), trivial, ⟨[], List.Perm.refl _⟩, (Option.some.inj hd1).symm, trivial⟩
  ·
    rintro o1 j26 D27 R3 hD28 le4 ⟨rfl, _⟩
    obtain rfl := hD28 rfl
    replace hd0 := on_go hd0
    refine wg_seq ?_
    refine wg_region ?_
    refine wo_v rfl (val_assign (v := (.int .i64 (-1))) rfl) ?_
    refine wo_nil ?_
    refine wg_ret ?_
    obtain rfl := Option.some.inj hd0
    refine body_end (D := []) (J := []) (rs := [.tmp 4]) (vs := [(.int .i64 (-1))]) le4 rfl rfl ⟨rfl, trivial⟩ ?_
    exact ⟨rfl, rfl⟩
theorem en70 : Enters Try.prog 70 := enters_of Try.func70 rfl (by kernel_rfl)
theorem c_slices_ContainsFunc_api_Edge {N : Nat} {R : RH} {s : (List Edge)} {v_s : Value} (h_s : VRep (tSl false kEdge) R v_s s) {f : Edge → Option Bool} {v_f : Value} (h_f : FOk1 Try.prog R v_f kEdge tBool f) {r : Bool} (hd0 : slices_ContainsFunc_api_Edge N s f = some r) : CallP Try.prog 55 #[v_s, v_f] R (fun v R' => v = (.bool r)) := by
  refine callP_of_wg (args := [v_s, v_f]) Try.func55 rfl rfl fun A => ?_
  rw [slices_ContainsFunc_api_Edge] at hd0
  refine wg_seq ?_
  refine wg_region ?_
  refine wo_v rfl (val_assign (v := (.bool false)) rfl) ?_
  refine wo_nil ?_
  refine wg_seq ?_
  refine wg_region ?_
  refine wo_v rfl (val_move (v := v_s) rfl) ?_
  refine wo_v rfl (val_move (v := v_f) rfl) ?_
  replace hd0 := bd_some hd0; obtain ⟨y1, c2, hd0⟩ := hd0
  refine wo_callP rfl en70 rfl (c_slices_IndexFunc_api_Edge h_s h_f c2) fun v3 R5 le6 h4 => ?_
  obtain rfl := h4
  refine wo_v rfl (val_geq rfl rfl) ?_
  refine wo_v rfl (val_assign (v := (.bool (decide (0 ≤ y1)))) rfl) ?_
  refine wo_nil ?_
  refine wg_ret ?_
  obtain rfl := Option.some.inj hd0
  refine body_end (D := []) (J := []) (rs := [.tmp 4]) (vs := [(.bool (decide (0 ≤ y1)))]) le6 rfl rfl ⟨rfl, trivial⟩ ?_
  exact ⟨rfl, rfl⟩
theorem en55 : Enters Try.prog 55 := enters_of Try.func55 rfl (by kernel_rfl)
theorem za49 : ∀ w, ∃ z, (zeroValue 49).run Try.prog w = .ok z w ∧ z.cells = ([.int .i64 0, .int .i64 0] : List Value).toArray := fun w => ⟨(.agg #[(.int .i64 0), (.int .i64 0)]), by kernel_rfl, rfl⟩
theorem sz49 : ∀ w, (sizeOf 49).run Try.prog w = .ok 2 w := fun w => by kernel_rfl
theorem ag49 : ∀ w, (isAgg 49).run Try.prog w = .ok true w := fun w => by kernel_rfl
theorem c_machines_none {N : Nat} {R : RH}  {r : Edge} (hd0 : machines_none N  = some r) : CallP Try.prog 71 #[] R (fun v R' => v = (enc_Edge r)) := by
  refine callP_of_wg (args := []) Try.func71 rfl rfl fun A => ?_
  rw [machines_none] at hd0
  refine wg_seq ?_
  refine wg_region ?_
  refine wo_alloc rfl za49 fun b1 => ?_
  refine wo_nil ?_
  refine wg_seq ?_
  refine wg_region ?_
  refine wo_v rfl (val_buildL (ps := [(0, (.int .i64 (-1))), (1, (.int .i64 (-1)))]) (v := (.agg #[(.int .i64 (-1)), (.int .i64 (-1))])) rfl (fun w => by kernel_rfl)) ?_
  refine wo_store (i := 0) (vs := [(.int .i64 (-1)), (.int .i64 (-1))]) sz49 rfl rfl rfl rfl rfl rfl (one_cons rfl (one_cons rfl one_nil)) ?_
  refine wo_nil ?_
  refine wg_ret ?_
  obtain rfl := Option.some.inj hd0
  refine body_end (D := []) (J := [box b1 [(.int .i64 (-1)), (.int .i64 (-1))] 49]) (rs := [.cell 0 49]) (vs := [(.agg #[(.int .i64 (-1)), (.int .i64 (-1))])]) (RH.le.refl _) rfl rfl ⟨⟨_, rfl, fun w hh => run_cellA (i := 0) hh rfl rfl ag49 sz49 rfl rfl⟩, trivial⟩ ?_
  exact ⟨rfl, rfl⟩
theorem en71 : Enters Try.prog 71 := enters_of Try.func71 rfl (by kernel_rfl)
theorem eq49 : EqOk2 Try.prog 49 := eqOk2_struct (f0 := ((Try.prog.fieldsOf 49).toList.getD 0 default)) (f1 := ((Try.prog.fieldsOf 49).toList.getD 1 default)) (by kernel_rfl) (by kernel_rfl) (by kernel_rfl) (by kernel_rfl) (by kernel_rfl) (by kernel_rfl) (by kernel_rfl) (by kernel_rfl) (by kernel_rfl) (by kernel_rfl)
theorem fd49_0 : FieldOk Try.prog 49 0 0 := by
  obtain ⟨i, hi, hs⟩ : ∃ i, Try.prog.info? 3 = some i ∧ i.size = 1 := info_size (by kernel_rfl)
  exact fieldOk_of Try.underlying49 rfl rfl hi (by rw [hs]; rfl)
theorem fd49_1 : FieldOk Try.prog 49 1 1 := by
  obtain ⟨i, hi, hs⟩ : ∃ i, Try.prog.info? 3 = some i ∧ i.size = 1 := info_size (by kernel_rfl)
  exact fieldOk_of Try.underlying49 rfl rfl hi (by rw [hs]; rfl)
theorem c_machines_fits {N : Nat} {R : RH} {m : Mach} {v_m : Value} (h_m : VRep (kMach false false) R v_m m) {x : Edge} {r : Bool} (hd0 : machines_fits N m x = some r) : CallP Try.prog 57 #[v_m, (enc_Edge x)] R (fun v R' => v = (.bool r)) := by
  refine callP_of_wg (args := [v_m, (enc_Edge x)]) Try.func57 rfl rfl fun A => ?_
  rw [machines_fits] at hd0
  refine wg_seq ?_
  refine wg_region ?_
  refine wo_boxR (T := (kMach false false)) rfl rfl h_m fun v1 R3 le4 h2 => ?_
  refine wo_boxR (T := kEdge) rfl rfl (vrep_Edge.2 rfl) fun v5 R7 le8 h6 => ?_
  refine wo_v rfl (val_assign (v := (.bool false)) rfl) ?_
  refine wo_nil ?_
  refine wg_seq ?_
  replace hd0 := bd_some hd0; obtain ⟨y9, c10, hd0⟩ := hd0
  refine wg_drawn 29 [] [phX (enc_Edge x), phX (enc_Edge y9), phX (.bool (decide (x.to = y9.to ∧ x.out = y9.out))), phX (.bool (decide (x.to = y9.to ∧ x.out = y9.out))), phG (true && ((decide (x.to = y9.to ∧ x.out = y9.out)) == false)) (phP (tInt .i64) x.to), phG (true && ((decide (x.to = y9.to ∧ x.out = y9.out)) == false)) (phX (.int .i64 x.to)), phG (true && ((decide (x.to = y9.to ∧ x.out = y9.out)) == false)) (phX (.bool (decide (0 ≤ x.to)))), phG (true && ((decide (x.to = y9.to ∧ x.out = y9.out)) == false)) (phX (.bool (decide (0 ≤ x.to)))), phG ((true && ((decide (x.to = y9.to ∧ x.out = y9.out)) == false)) && ((decide (0 ≤ x.to)) == true)) (phP (tInt .i64) x.to), phG ((true && ((decide (x.to = y9.to ∧ x.out = y9.out)) == false)) && ((decide (0 ≤ x.to)) == true)) (phX (.int .i64 x.to)), phG ((true && ((decide (x.to = y9.to ∧ x.out = y9.out)) == false)) && ((decide (0 ≤ x.to)) == true)) (phP (tSl false (tSl false kEdge)) m.rows), phG ((true && ((decide (x.to = y9.to ∧ x.out = y9.out)) == false)) && ((decide (0 ≤ x.to)) == true)) (phR (tSl false (tSl false kEdge)) m.rows), phG ((true && ((decide (x.to = y9.to ∧ x.out = y9.out)) == false)) && ((decide (0 ≤ x.to)) == true)) (phX (.int .i64 (↑m.rows.length : Int))), phG ((true && ((decide (x.to = y9.to ∧ x.out = y9.out)) == false)) && ((decide (0 ≤ x.to)) == true)) (phX (.bool (decide (x.to < (↑m.rows.length : Int))))), phG (true && ((decide (x.to = y9.to ∧ x.out = y9.out)) == false)) (phX (.bool ((decide (0 ≤ x.to)) && (decide (x.to < (↑m.rows.length : Int)))))), phG (true && ((decide (x.to = y9.to ∧ x.out = y9.out)) == false)) (phX (.bool ((decide (0 ≤ x.to)) && (decide (x.to < (↑m.rows.length : Int)))))), phG ((true && ((decide (x.to = y9.to ∧ x.out = y9.out)) == false)) && (((decide (0 ≤ x.to)) && (decide (x.to < (↑m.rows.length : Int)))) == true)) (phP (tInt .i64) x.out), phG ((true && ((decide (x.to = y9.to ∧ x.out = y9.out)) == false)) && (((decide (0 ≤ x.to)) && (decide (x.to < (↑m.rows.length : Int)))) == true)) (phX (.int .i64 x.out)), phG ((true && ((decide (x.to = y9.to ∧ x.out = y9.out)) == false)) && (((decide (0 ≤ x.to)) && (decide (x.to < (↑m.rows.length : Int)))) == true)) (phX (.bool (decide (0 ≤ x.out)))), phG (true && ((decide (x.to = y9.to ∧ x.out = y9.out)) == false)) (phX (.bool (((decide (0 ≤ x.to)) && (decide (x.to < (↑m.rows.length : Int)))) && (decide (0 ≤ x.out))))), phG (true && ((decide (x.to = y9.to ∧ x.out = y9.out)) == false)) (phX (.bool (((decide (0 ≤ x.to)) && (decide (x.to < (↑m.rows.length : Int)))) && (decide (0 ≤ x.out))))), phG ((true && ((decide (x.to = y9.to ∧ x.out = y9.out)) == false)) && ((((decide (0 ≤ x.to)) && (decide (x.to < (↑m.rows.length : Int)))) && (decide (0 ≤ x.out))) == true)) (phP (tInt .i64) x.out), phG ((true && ((decide (x.to = y9.to ∧ x.out = y9.out)) == false)) && ((((decide (0 ≤ x.to)) && (decide (x.to < (↑m.rows.length : Int)))) && (decide (0 ≤ x.out))) == true)) (phX (.int .i64 x.out)), phG ((true && ((decide (x.to = y9.to ∧ x.out = y9.out)) == false)) && ((((decide (0 ≤ x.to)) && (decide (x.to < (↑m.rows.length : Int)))) && (decide (0 ≤ x.out))) == true)) (phP (tInt .i64) m.outputs), phG ((true && ((decide (x.to = y9.to ∧ x.out = y9.out)) == false)) && ((((decide (0 ≤ x.to)) && (decide (x.to < (↑m.rows.length : Int)))) && (decide (0 ≤ x.out))) == true)) (phX (.int .i64 m.outputs)), phG ((true && ((decide (x.to = y9.to ∧ x.out = y9.out)) == false)) && ((((decide (0 ≤ x.to)) && (decide (x.to < (↑m.rows.length : Int)))) && (decide (0 ≤ x.out))) == true)) (phX (.bool (decide (x.out < m.outputs)))), phG (true && ((decide (x.to = y9.to ∧ x.out = y9.out)) == false)) (phX (.bool ((((decide (0 ≤ x.to)) && (decide (x.to < (↑m.rows.length : Int)))) && (decide (0 ≤ x.out))) && (decide (x.out < m.outputs))))), phX (.bool ((decide (x.to = y9.to ∧ x.out = y9.out)) || ((((decide (0 ≤ x.to)) && (decide (x.to < (↑m.rows.length : Int)))) && (decide (0 ≤ x.out))) && (decide (x.out < m.outputs))))), phX (.bool ((decide (x.to = y9.to ∧ x.out = y9.out)) || ((((decide (0 ≤ x.to)) && (decide (x.to < (↑m.rows.length : Int)))) && (decide (0 ≤ x.out))) && (decide (x.out < m.outputs)))))] mixed (by kernel_rfl) (monoOk_of ⟨mono_x, mono_x, mono_x, mono_x, (mono_g mono_p), (mono_g mono_x), (mono_g mono_x), (mono_g mono_x), (mono_g mono_p), (mono_g mono_x), (mono_g mono_p), (mono_g mono_r), (mono_g mono_x), (mono_g mono_x), (mono_g mono_x), (mono_g mono_x), (mono_g mono_p), (mono_g mono_x), (mono_g mono_x), (mono_g mono_x), (mono_g mono_x), (mono_g mono_p), (mono_g mono_x), (mono_g mono_p), (mono_g mono_x), (mono_g mono_x), (mono_g mono_x), mono_x, mono_x, trivial⟩) ⟨?_, ?_, ?_, ?_, ?_, ?_, ?_, ?_, ?_, ?_, ?_, ?_, ?_, ?_, ?_, ?_, ?_, ?_, ?_, ?_, ?_, ?_, ?_, ?_, ?_, ?_, ?_, ?_, ?_, trivial⟩ fun R11 le12 => ?_
  · intro l R0q hle ha hd
    have a3 : l 3 = v5 := ha 3 rfl
    exact gstep_plain rfl rfl rfl (ph_exact (ph_loadR ty49 a3 (h6.mono hle)) (fun _ _ h => vrep_Edge.1 h))
  · intro l R1q hle ha hd
    exact gstep_plain rfl rfl rfl (ph_callP (vs := []) en71 rfl (c_machines_none  c10) (fun _ _ h => h))
  · intro l R2q hle ha hd
    obtain ⟨d0, d1, _⟩ := hd
    have f5 : l 5 = (enc_Edge x) := d0 rfl
    have f6 : l 6 = (enc_Edge y9) := d1 rfl
    exact gstep_plain rfl rfl rfl (ph_val (val_eql2 eq49 f5 f6))
  · intro l R3q hle ha hd
    obtain ⟨d0, d1, _⟩ := hd
    have f7 : l 7 = (.bool (decide (x.to = y9.to ∧ x.out = y9.out))) := d0 rfl
    exact gstep_plain rfl rfl rfl (ph_val (val_move f7))
  · intro l R4q hle ha hd
    obtain ⟨d0, _⟩ := hd
    have a3 : l 3 = v5 := ha 3 rfl
    exact gstep_guard (Gj := true) (Bj := decide (x.to = y9.to ∧ x.out = y9.out)) rfl rfl rfl (gtrue (d0 rfl)) rfl (fun hG hB => ph_fieldR fd49_0 pt_Edge0 a3 (h6.mono hle))
  · intro l R5q hle ha hd
    obtain ⟨d0, d1, _⟩ := hd
    have f9g : phG (true && ((decide (x.to = y9.to ∧ x.out = y9.out)) == false)) (phP (tInt .i64) x.to) (l 9) R5q := d0 rfl
    exact gstep_guard (Gj := true) (Bj := decide (x.to = y9.to ∧ x.out = y9.out)) rfl rfl rfl (gtrue (d1 rfl)) rfl (fun hG hB => ph_exact (ph_loadR ty3 rfl (f9g.1 (gandT rfl hB))) (fun _ _ h => vrep_int.1 h))
  · intro l R6q hle ha hd
    obtain ⟨d0, d1, _⟩ := hd
    have f10g : phG (true && ((decide (x.to = y9.to ∧ x.out = y9.out)) == false)) (phX (.int .i64 x.to)) (l 10) R6q := d0 rfl
    exact gstep_guard (Gj := true) (Bj := decide (x.to = y9.to ∧ x.out = y9.out)) rfl rfl rfl (gtrue (d1 rfl)) rfl (fun hG hB => ph_val (val_geq (show l 10 = (.int .i64 x.to) from f10g.1 (gandT rfl hB)) rfl))
  · intro l R7q hle ha hd
    obtain ⟨d0, d1, d2, _⟩ := hd
    have f11g : phG (true && ((decide (x.to = y9.to ∧ x.out = y9.out)) == false)) (phX (.bool (decide (0 ≤ x.to)))) (l 11) R7q := d0 rfl
    exact gstep_guard (Gj := true) (Bj := decide (x.to = y9.to ∧ x.out = y9.out)) rfl rfl rfl (gtrue (d1 rfl)) rfl (fun hG hB => ph_val (val_move (show l 11 = (.bool (decide (0 ≤ x.to))) from f11g.1 (gandT rfl hB))))
  · intro l R8q hle ha hd
    obtain ⟨d0, _⟩ := hd
    have a3 : l 3 = v5 := ha 3 rfl
    exact gstep_guard (Gj := (true && ((decide (x.to = y9.to ∧ x.out = y9.out)) == false))) (Bj := decide (0 ≤ x.to)) rfl rfl rfl (d0 rfl) rfl (fun hG hB => ph_fieldR fd49_0 pt_Edge0 a3 (h6.mono hle))
  · intro l R9q hle ha hd
    obtain ⟨d0, d1, _⟩ := hd
    have f13g : phG ((true && ((decide (x.to = y9.to ∧ x.out = y9.out)) == false)) && ((decide (0 ≤ x.to)) == true)) (phP (tInt .i64) x.to) (l 13) R9q := d0 rfl
    exact gstep_guard (Gj := (true && ((decide (x.to = y9.to ∧ x.out = y9.out)) == false))) (Bj := decide (0 ≤ x.to)) rfl rfl rfl (d1 rfl) rfl (fun hG hB => ph_exact (ph_loadR ty3 rfl (f13g.1 (gandT hG hB))) (fun _ _ h => vrep_int.1 h))
  · intro l R10q hle ha hd
    obtain ⟨d0, _⟩ := hd
    have a2 : l 2 = v1 := ha 2 rfl
    exact gstep_guard (Gj := (true && ((decide (x.to = y9.to ∧ x.out = y9.out)) == false))) (Bj := decide (0 ≤ x.to)) rfl rfl rfl (d0 rfl) rfl (fun hG hB => ph_fieldR fd27_2 pt_Mach2 a2 ((h2.mono le8).mono hle))
  · intro l R11q hle ha hd
    obtain ⟨d0, d1, _⟩ := hd
    have f15g : phG ((true && ((decide (x.to = y9.to ∧ x.out = y9.out)) == false)) && ((decide (0 ≤ x.to)) == true)) (phP (tSl false (tSl false kEdge)) m.rows) (l 15) R11q := d0 rfl
    exact gstep_guard (Gj := (true && ((decide (x.to = y9.to ∧ x.out = y9.out)) == false))) (Bj := decide (0 ≤ x.to)) rfl rfl rfl (d1 rfl) rfl (fun hG hB => ph_loadR ty25 rfl (f15g.1 (gandT hG hB)))
  · intro l R12q hle ha hd
    obtain ⟨d0, d1, _⟩ := hd
    have f16g : phG ((true && ((decide (x.to = y9.to ∧ x.out = y9.out)) == false)) && ((decide (0 ≤ x.to)) == true)) (phR (tSl false (tSl false kEdge)) m.rows) (l 16) R12q := d0 rfl
    exact gstep_guard (Gj := (true && ((decide (x.to = y9.to ∧ x.out = y9.out)) == false))) (Bj := decide (0 ≤ x.to)) rfl rfl rfl (d1 rfl) rfl (fun hG hB => ph_val (val_lenR rfl Try.underlying25 rfl (sl_s (f16g.1 (gandT hG hB)))))
  · intro l R13q hle ha hd
    obtain ⟨d0, d1, d2, _⟩ := hd
    have f14g : phG ((true && ((decide (x.to = y9.to ∧ x.out = y9.out)) == false)) && ((decide (0 ≤ x.to)) == true)) (phX (.int .i64 x.to)) (l 14) R13q := d0 rfl
    have f17g : phG ((true && ((decide (x.to = y9.to ∧ x.out = y9.out)) == false)) && ((decide (0 ≤ x.to)) == true)) (phX (.int .i64 (↑m.rows.length : Int))) (l 17) R13q := d1 rfl
    exact gstep_guard (Gj := (true && ((decide (x.to = y9.to ∧ x.out = y9.out)) == false))) (Bj := decide (0 ≤ x.to)) rfl rfl rfl (d2 rfl) rfl (fun hG hB => ph_val (val_lss (show l 14 = (.int .i64 x.to) from f14g.1 (gandT hG hB)) (show l 17 = (.int .i64 (↑m.rows.length : Int)) from f17g.1 (gandT hG hB))))
  · intro l R14q hle ha hd
    obtain ⟨d0, d1, d2, _⟩ := hd
    have f12g : phG (true && ((decide (x.to = y9.to ∧ x.out = y9.out)) == false)) (phX (.bool (decide (0 ≤ x.to)))) (l 12) R14q := d0 rfl
    have f18g : phG ((true && ((decide (x.to = y9.to ∧ x.out = y9.out)) == false)) && ((decide (0 ≤ x.to)) == true)) (phX (.bool (decide (x.to < (↑m.rows.length : Int))))) (l 18) R14q := d1 rfl
    exact gstep_guard (Gj := true) (Bj := decide (x.to = y9.to ∧ x.out = y9.out)) rfl rfl rfl (gtrue (d2 rfl)) rfl (fun hG hB => ph_val (val_and (show l 12 = (.bool (decide (0 ≤ x.to))) from f12g.1 (gandT rfl hB)) (fun hb => (show l 18 = (.bool (decide (x.to < (↑m.rows.length : Int)))) from f18g.1 (gandT (gandT rfl hB) hb))) rfl))
  · intro l R15q hle ha hd
    obtain ⟨d0, d1, d2, _⟩ := hd
    have f19g : phG (true && ((decide (x.to = y9.to ∧ x.out = y9.out)) == false)) (phX (.bool ((decide (0 ≤ x.to)) && (decide (x.to < (↑m.rows.length : Int)))))) (l 19) R15q := d0 rfl
    exact gstep_guard (Gj := true) (Bj := decide (x.to = y9.to ∧ x.out = y9.out)) rfl rfl rfl (gtrue (d2 rfl)) rfl (fun hG hB => ph_val (val_move (show l 19 = (.bool ((decide (0 ≤ x.to)) && (decide (x.to < (↑m.rows.length : Int))))) from f19g.1 (gandT rfl hB))))
  · intro l R16q hle ha hd
    obtain ⟨d0, _⟩ := hd
    have a3 : l 3 = v5 := ha 3 rfl
    exact gstep_guard (Gj := (true && ((decide (x.to = y9.to ∧ x.out = y9.out)) == false))) (Bj := (decide (0 ≤ x.to)) && (decide (x.to < (↑m.rows.length : Int)))) rfl rfl rfl (d0 rfl) rfl (fun hG hB => ph_fieldR fd49_1 pt_Edge1 a3 (h6.mono hle))
  · intro l R17q hle ha hd
    obtain ⟨d0, d1, _⟩ := hd
    have f21g : phG ((true && ((decide (x.to = y9.to ∧ x.out = y9.out)) == false)) && (((decide (0 ≤ x.to)) && (decide (x.to < (↑m.rows.length : Int)))) == true)) (phP (tInt .i64) x.out) (l 21) R17q := d0 rfl
    exact gstep_guard (Gj := (true && ((decide (x.to = y9.to ∧ x.out = y9.out)) == false))) (Bj := (decide (0 ≤ x.to)) && (decide (x.to < (↑m.rows.length : Int)))) rfl rfl rfl (d1 rfl) rfl (fun hG hB => ph_exact (ph_loadR ty3 rfl (f21g.1 (gandT hG hB))) (fun _ _ h => vrep_int.1 h))
  · intro l R18q hle ha hd
    obtain ⟨d0, d1, _⟩ := hd
    have f22g : phG ((true && ((decide (x.to = y9.to ∧ x.out = y9.out)) == false)) && (((decide (0 ≤ x.to)) && (decide (x.to < (↑m.rows.length : Int)))) == true)) (phX (.int .i64 x.out)) (l 22) R18q := d0 rfl
    exact gstep_guard (Gj := (true && ((decide (x.to = y9.to ∧ x.out = y9.out)) == false))) (Bj := (decide (0 ≤ x.to)) && (decide (x.to < (↑m.rows.length : Int)))) rfl rfl rfl (d1 rfl) rfl (fun hG hB => ph_val (val_geq (show l 22 = (.int .i64 x.out) from f22g.1 (gandT hG hB)) rfl))
  · intro l R19q hle ha hd
    obtain ⟨d0, d1, d2, _⟩ := hd
    have f20g : phG (true && ((decide (x.to = y9.to ∧ x.out = y9.out)) == false)) (phX (.bool ((decide (0 ≤ x.to)) && (decide (x.to < (↑m.rows.length : Int)))))) (l 20) R19q := d0 rfl
    have f23g : phG ((true && ((decide (x.to = y9.to ∧ x.out = y9.out)) == false)) && (((decide (0 ≤ x.to)) && (decide (x.to < (↑m.rows.length : Int)))) == true)) (phX (.bool (decide (0 ≤ x.out)))) (l 23) R19q := d1 rfl
    exact gstep_guard (Gj := true) (Bj := decide (x.to = y9.to ∧ x.out = y9.out)) rfl rfl rfl (gtrue (d2 rfl)) rfl (fun hG hB => ph_val (val_and (show l 20 = (.bool ((decide (0 ≤ x.to)) && (decide (x.to < (↑m.rows.length : Int))))) from f20g.1 (gandT rfl hB)) (fun hb => (show l 23 = (.bool (decide (0 ≤ x.out))) from f23g.1 (gandT (gandT rfl hB) hb))) rfl))
  · intro l R20q hle ha hd
    obtain ⟨d0, d1, d2, _⟩ := hd
    have f24g : phG (true && ((decide (x.to = y9.to ∧ x.out = y9.out)) == false)) (phX (.bool (((decide (0 ≤ x.to)) && (decide (x.to < (↑m.rows.length : Int)))) && (decide (0 ≤ x.out))))) (l 24) R20q := d0 rfl
    exact gstep_guard (Gj := true) (Bj := decide (x.to = y9.to ∧ x.out = y9.out)) rfl rfl rfl (gtrue (d2 rfl)) rfl (fun hG hB => ph_val (val_move (show l 24 = (.bool (((decide (0 ≤ x.to)) && (decide (x.to < (↑m.rows.length : Int)))) && (decide (0 ≤ x.out)))) from f24g.1 (gandT rfl hB))))
  · intro l R21q hle ha hd
    obtain ⟨d0, _⟩ := hd
    have a3 : l 3 = v5 := ha 3 rfl
    exact gstep_guard (Gj := (true && ((decide (x.to = y9.to ∧ x.out = y9.out)) == false))) (Bj := ((decide (0 ≤ x.to)) && (decide (x.to < (↑m.rows.length : Int)))) && (decide (0 ≤ x.out))) rfl rfl rfl (d0 rfl) rfl (fun hG hB => ph_fieldR fd49_1 pt_Edge1 a3 (h6.mono hle))
  · intro l R22q hle ha hd
    obtain ⟨d0, d1, _⟩ := hd
    have f26g : phG ((true && ((decide (x.to = y9.to ∧ x.out = y9.out)) == false)) && ((((decide (0 ≤ x.to)) && (decide (x.to < (↑m.rows.length : Int)))) && (decide (0 ≤ x.out))) == true)) (phP (tInt .i64) x.out) (l 26) R22q := d0 rfl
    exact gstep_guard (Gj := (true && ((decide (x.to = y9.to ∧ x.out = y9.out)) == false))) (Bj := ((decide (0 ≤ x.to)) && (decide (x.to < (↑m.rows.length : Int)))) && (decide (0 ≤ x.out))) rfl rfl rfl (d1 rfl) rfl (fun hG hB => ph_exact (ph_loadR ty3 rfl (f26g.1 (gandT hG hB))) (fun _ _ h => vrep_int.1 h))
  · intro l R23q hle ha hd
    obtain ⟨d0, _⟩ := hd
    have a2 : l 2 = v1 := ha 2 rfl
    exact gstep_guard (Gj := (true && ((decide (x.to = y9.to ∧ x.out = y9.out)) == false))) (Bj := ((decide (0 ≤ x.to)) && (decide (x.to < (↑m.rows.length : Int)))) && (decide (0 ≤ x.out))) rfl rfl rfl (d0 rfl) rfl (fun hG hB => ph_fieldR fd27_1 pt_Mach1 a2 ((h2.mono le8).mono hle))
  · intro l R24q hle ha hd
    obtain ⟨d0, d1, _⟩ := hd
    have f28g : phG ((true && ((decide (x.to = y9.to ∧ x.out = y9.out)) == false)) && ((((decide (0 ≤ x.to)) && (decide (x.to < (↑m.rows.length : Int)))) && (decide (0 ≤ x.out))) == true)) (phP (tInt .i64) m.outputs) (l 28) R24q := d0 rfl
    exact gstep_guard (Gj := (true && ((decide (x.to = y9.to ∧ x.out = y9.out)) == false))) (Bj := ((decide (0 ≤ x.to)) && (decide (x.to < (↑m.rows.length : Int)))) && (decide (0 ≤ x.out))) rfl rfl rfl (d1 rfl) rfl (fun hG hB => ph_exact (ph_loadR ty3 rfl (f28g.1 (gandT hG hB))) (fun _ _ h => vrep_int.1 h))
  · intro l R25q hle ha hd
    obtain ⟨d0, d1, d2, _⟩ := hd
    have f27g : phG ((true && ((decide (x.to = y9.to ∧ x.out = y9.out)) == false)) && ((((decide (0 ≤ x.to)) && (decide (x.to < (↑m.rows.length : Int)))) && (decide (0 ≤ x.out))) == true)) (phX (.int .i64 x.out)) (l 27) R25q := d0 rfl
    have f29g : phG ((true && ((decide (x.to = y9.to ∧ x.out = y9.out)) == false)) && ((((decide (0 ≤ x.to)) && (decide (x.to < (↑m.rows.length : Int)))) && (decide (0 ≤ x.out))) == true)) (phX (.int .i64 m.outputs)) (l 29) R25q := d1 rfl
    exact gstep_guard (Gj := (true && ((decide (x.to = y9.to ∧ x.out = y9.out)) == false))) (Bj := ((decide (0 ≤ x.to)) && (decide (x.to < (↑m.rows.length : Int)))) && (decide (0 ≤ x.out))) rfl rfl rfl (d2 rfl) rfl (fun hG hB => ph_val (val_lss (show l 27 = (.int .i64 x.out) from f27g.1 (gandT hG hB)) (show l 29 = (.int .i64 m.outputs) from f29g.1 (gandT hG hB))))
  · intro l R26q hle ha hd
    obtain ⟨d0, d1, d2, _⟩ := hd
    have f25g : phG (true && ((decide (x.to = y9.to ∧ x.out = y9.out)) == false)) (phX (.bool (((decide (0 ≤ x.to)) && (decide (x.to < (↑m.rows.length : Int)))) && (decide (0 ≤ x.out))))) (l 25) R26q := d0 rfl
    have f30g : phG ((true && ((decide (x.to = y9.to ∧ x.out = y9.out)) == false)) && ((((decide (0 ≤ x.to)) && (decide (x.to < (↑m.rows.length : Int)))) && (decide (0 ≤ x.out))) == true)) (phX (.bool (decide (x.out < m.outputs)))) (l 30) R26q := d1 rfl
    exact gstep_guard (Gj := true) (Bj := decide (x.to = y9.to ∧ x.out = y9.out)) rfl rfl rfl (gtrue (d2 rfl)) rfl (fun hG hB => ph_val (val_and (show l 25 = (.bool (((decide (0 ≤ x.to)) && (decide (x.to < (↑m.rows.length : Int)))) && (decide (0 ≤ x.out)))) from f25g.1 (gandT rfl hB)) (fun hb => (show l 30 = (.bool (decide (x.out < m.outputs))) from f30g.1 (gandT (gandT rfl hB) hb))) rfl))
  · intro l R27q hle ha hd
    obtain ⟨d0, d1, _⟩ := hd
    have f8 : l 8 = (.bool (decide (x.to = y9.to ∧ x.out = y9.out))) := d0 rfl
    have f31g : phG (true && ((decide (x.to = y9.to ∧ x.out = y9.out)) == false)) (phX (.bool ((((decide (0 ≤ x.to)) && (decide (x.to < (↑m.rows.length : Int)))) && (decide (0 ≤ x.out))) && (decide (x.out < m.outputs))))) (l 31) R27q := d1 rfl
    exact gstep_plain rfl rfl rfl (ph_val (val_or f8 rfl (fun hb => (show l 31 = (.bool ((((decide (0 ≤ x.to)) && (decide (x.to < (↑m.rows.length : Int)))) && (decide (0 ≤ x.out))) && (decide (x.out < m.outputs)))) from f31g.1 (gandT rfl hb)))))
  · intro l R28q hle ha hd
    obtain ⟨d0, d1, d2, d3, d4, d5, d6, d7, d8, d9, d10, d11, d12, d13, d14, d15, d16, d17, d18, d19, d20, d21, d22, d23, d24, d25, d26, d27, d28, d29, _⟩ := hd
    have f32 : l 32 = (.bool ((decide (x.to = y9.to ∧ x.out = y9.out)) || ((((decide (0 ≤ x.to)) && (decide (x.to < (↑m.rows.length : Int)))) && (decide (0 ≤ x.out))) && (decide (x.out < m.outputs))))) := d0 rfl
    exact gstep_plain rfl rfl rfl (ph_val (val_assign f32))
  intro v13 h14
  intro v15 h16
  intro v17 h18
  intro v19 h20
  intro v21 h22
  intro v23 h24
  intro v25 h26
  intro v27 h28
  intro v29 h30
  intro v31 h32
  intro v33 h34
  intro v35 h36
  intro v37 h38
  intro v39 h40
  intro v41 h42
  intro v43 h44
  intro v45 h46
  intro v47 h48
  intro v49 h50
  intro v51 h52
  intro v53 h54
  intro v55 h56
  intro v57 h58
  intro v59 h60
  intro v61 h62
  intro v63 h64
  intro v65 h66
  intro v67 h68
  intro v69 h70
  obtain rfl := Eq.symm h14
  obtain rfl := Eq.symm h16
  obtain rfl := Eq.symm h18
  obtain rfl := Eq.symm h20
  obtain rfl := Eq.symm h68
  obtain rfl := Eq.symm h70
  refine wo_nil ?_
  refine wg_ret ?_
  obtain rfl := Option.some.inj hd0
  refine body_end (D := []) (J := []) (rs := [.tmp 4]) (vs := [(.bool ((decide (x.to = y9.to ∧ x.out = y9.out)) || ((((decide (0 ≤ x.to)) && (decide (x.to < (↑m.rows.length : Int)))) && (decide (0 ≤ x.out))) && (decide (x.out < m.outputs)))))]) ((le4.trans le8).trans le12) rfl rfl ⟨rfl, trivial⟩ ?_
  exact ⟨rfl, rfl⟩
theorem en57 : Enters Try.prog 57 := enters_of Try.func57 rfl (by kernel_rfl)
theorem c_machines_Check_1 {N : Nat} {R : RH} {x : Edge} {p0_ : Mach} {v_p0_ : Value} (h_p0_ : PRep (kMach false false) R v_p0_ p0_) {r : Bool} (hd0 : machines_Check_1 N x p0_ = some r) : CallP Try.prog 56 #[(enc_Edge x), v_p0_] R (fun v R' => v = (.bool r)) := by
  refine callP_of_wg (args := [(enc_Edge x), v_p0_]) Try.func56 rfl rfl fun A => ?_
  rw [machines_Check_1] at hd0
  refine wg_seq ?_
  refine wg_region ?_
  refine wo_boxR (T := kEdge) rfl rfl (vrep_Edge.2 rfl) fun v1 R3 le4 h2 => ?_
  refine wo_v rfl (val_assign (v := (.bool false)) rfl) ?_
  refine wo_nil ?_
  refine wg_seq ?_
  refine wg_region ?_
  refine wo_loadR rfl ty27 rfl (h_p0_.mono le4) fun v5 h6 => ?_
  refine wo_loadR rfl ty49 rfl h2 fun v7 h8 => ?_
  obtain rfl := vrep_Edge.1 h8
  replace hd0 := bd_some hd0; obtain ⟨y9, c10, hd0⟩ := hd0
  refine wo_callP rfl en57 rfl (c_machines_fits h6 c10) fun v11 R13 le14 h12 => ?_
  obtain rfl := h12
  refine wo_v rfl (val_not rfl) ?_
  refine wo_v rfl (val_assign (v := (.bool (!y9))) rfl) ?_
  refine wo_nil ?_
  refine wg_ret ?_
  obtain rfl := Option.some.inj hd0
  refine body_end (D := []) (J := []) (rs := [.tmp 3]) (vs := [(.bool (!y9))]) (le4.trans le14) rfl rfl ⟨rfl, trivial⟩ ?_
  exact ⟨rfl, rfl⟩
theorem en56 : Enters Try.prog 56 := enters_of Try.func56 rfl (by kernel_rfl)
theorem c_machines_Check {N : Nat} {R : RH} {m : Mach} {v_m : Value} (h_m : VRep (kMach false false) R v_m m) {r : Int} (hd0 : machines_Check N m = some r) : CallP Try.prog 37 #[v_m] R (fun v R' => v = (.int .i64 r)) := by
  refine callP_of_wg (args := [v_m]) Try.func37 rfl rfl fun A => ?_
  rw [machines_Check] at hd0
  refine wg_seq ?_
  refine wg_region ?_
  refine wo_boxR (T := (kMach false false)) rfl rfl h_m fun v1 R3 le4 h2 => ?_
  refine wo_v rfl (val_assign (v := (.int .i64 0)) rfl) ?_
  refine wo_nil ?_
  refine wg_seq ?_
  refine wg_seq ?_
  refine wg_guarded 14 [] [phP (tInt .i64) m.inputs, phX (.int .i64 m.inputs), phX (.bool (decide (16 < m.inputs))), phX (.bool (decide (16 < m.inputs))), phG (true && ((decide (16 < m.inputs)) == false)) (phP (tInt .i64) m.outputs), phG (true && ((decide (16 < m.inputs)) == false)) (phX (.int .i64 m.outputs)), phG (true && ((decide (16 < m.inputs)) == false)) (phX (.bool (decide (16 < m.outputs)))), phX (.bool ((decide (16 < m.inputs)) || (decide (16 < m.outputs)))), phX (.bool ((decide (16 < m.inputs)) || (decide (16 < m.outputs)))), phG (true && (((decide (16 < m.inputs)) || (decide (16 < m.outputs))) == false)) (phP (tSl false (tSl false kEdge)) m.rows), phG (true && (((decide (16 < m.inputs)) || (decide (16 < m.outputs))) == false)) (phR (tSl false (tSl false kEdge)) m.rows), phG (true && (((decide (16 < m.inputs)) || (decide (16 < m.outputs))) == false)) (phX (.int .i64 (↑m.rows.length : Int))), phG (true && (((decide (16 < m.inputs)) || (decide (16 < m.outputs))) == false)) (phX (.bool (decide (64 < (↑m.rows.length : Int))))), phX (.bool (((decide (16 < m.inputs)) || (decide (16 < m.outputs))) || (decide (64 < (↑m.rows.length : Int)))))] (by kernel_rfl) (by kernel_rfl) (monoOk_of ⟨mono_p, mono_x, mono_x, mono_x, (mono_g mono_p), (mono_g mono_x), (mono_g mono_x), mono_x, mono_x, (mono_g mono_p), (mono_g mono_r), (mono_g mono_x), (mono_g mono_x), mono_x, trivial⟩) ⟨?_, ?_, ?_, ?_, ?_, ?_, ?_, ?_, ?_, ?_, ?_, ?_, ?_, ?_, trivial⟩ fun R5 le6 => ?_
  · intro l R0q hle ha hd
    have a1 : l 1 = v1 := ha 1 rfl
    exact gstep_plain rfl rfl rfl (ph_fieldR fd27_0 pt_Mach0 a1 (h2.mono hle))
  · intro l R1q hle ha hd
    obtain ⟨d0, _⟩ := hd
    have f5 : phP (tInt .i64) m.inputs (l 5) R1q := d0 rfl
    exact gstep_plain rfl rfl rfl (ph_exact (ph_loadR ty3 rfl f5) (fun _ _ h => vrep_int.1 h))
  · intro l R2q hle ha hd
    obtain ⟨d0, _⟩ := hd
    have f6 : l 6 = (.int .i64 m.inputs) := d0 rfl
    exact gstep_plain rfl rfl rfl (ph_val (val_gtr f6 rfl))
  · intro l R3q hle ha hd
    obtain ⟨d0, _⟩ := hd
    have f7 : l 7 = (.bool (decide (16 < m.inputs))) := d0 rfl
    exact gstep_plain rfl rfl rfl (ph_val (val_move f7))
  · intro l R4q hle ha hd
    obtain ⟨d0, _⟩ := hd
    have a1 : l 1 = v1 := ha 1 rfl
    exact gstep_guard (Gj := true) (Bj := decide (16 < m.inputs)) rfl rfl rfl (gtrue (d0 rfl)) rfl (fun hG hB => ph_fieldR fd27_1 pt_Mach1 a1 (h2.mono hle))
  · intro l R5q hle ha hd
    obtain ⟨d0, d1, _⟩ := hd
    have f9g : phG (true && ((decide (16 < m.inputs)) == false)) (phP (tInt .i64) m.outputs) (l 9) R5q := d0 rfl
    exact gstep_guard (Gj := true) (Bj := decide (16 < m.inputs)) rfl rfl rfl (gtrue (d1 rfl)) rfl (fun hG hB => ph_exact (ph_loadR ty3 rfl (f9g.1 (gandT rfl hB))) (fun _ _ h => vrep_int.1 h))
  · intro l R6q hle ha hd
    obtain ⟨d0, d1, _⟩ := hd
    have f10g : phG (true && ((decide (16 < m.inputs)) == false)) (phX (.int .i64 m.outputs)) (l 10) R6q := d0 rfl
    exact gstep_guard (Gj := true) (Bj := decide (16 < m.inputs)) rfl rfl rfl (gtrue (d1 rfl)) rfl (fun hG hB => ph_val (val_gtr (show l 10 = (.int .i64 m.outputs) from f10g.1 (gandT rfl hB)) rfl))
  · intro l R7q hle ha hd
    obtain ⟨d0, d1, _⟩ := hd
    have f8 : l 8 = (.bool (decide (16 < m.inputs))) := d0 rfl
    have f11g : phG (true && ((decide (16 < m.inputs)) == false)) (phX (.bool (decide (16 < m.outputs)))) (l 11) R7q := d1 rfl
    exact gstep_plain rfl rfl rfl (ph_val (val_or f8 rfl (fun hb => (show l 11 = (.bool (decide (16 < m.outputs))) from f11g.1 (gandT rfl hb)))))
  · intro l R8q hle ha hd
    obtain ⟨d0, d1, _⟩ := hd
    have f12 : l 12 = (.bool ((decide (16 < m.inputs)) || (decide (16 < m.outputs)))) := d0 rfl
    exact gstep_plain rfl rfl rfl (ph_val (val_move f12))
  · intro l R9q hle ha hd
    obtain ⟨d0, _⟩ := hd
    have a1 : l 1 = v1 := ha 1 rfl
    exact gstep_guard (Gj := true) (Bj := (decide (16 < m.inputs)) || (decide (16 < m.outputs))) rfl rfl rfl (gtrue (d0 rfl)) rfl (fun hG hB => ph_fieldR fd27_2 pt_Mach2 a1 (h2.mono hle))
  · intro l R10q hle ha hd
    obtain ⟨d0, d1, _⟩ := hd
    have f14g : phG (true && (((decide (16 < m.inputs)) || (decide (16 < m.outputs))) == false)) (phP (tSl false (tSl false kEdge)) m.rows) (l 14) R10q := d0 rfl
    exact gstep_guard (Gj := true) (Bj := (decide (16 < m.inputs)) || (decide (16 < m.outputs))) rfl rfl rfl (gtrue (d1 rfl)) rfl (fun hG hB => ph_loadR ty25 rfl (f14g.1 (gandT rfl hB)))
  · intro l R11q hle ha hd
    obtain ⟨d0, d1, _⟩ := hd
    have f15g : phG (true && (((decide (16 < m.inputs)) || (decide (16 < m.outputs))) == false)) (phR (tSl false (tSl false kEdge)) m.rows) (l 15) R11q := d0 rfl
    exact gstep_guard (Gj := true) (Bj := (decide (16 < m.inputs)) || (decide (16 < m.outputs))) rfl rfl rfl (gtrue (d1 rfl)) rfl (fun hG hB => ph_val (val_lenR rfl Try.underlying25 rfl (sl_s (f15g.1 (gandT rfl hB)))))
  · intro l R12q hle ha hd
    obtain ⟨d0, d1, _⟩ := hd
    have f16g : phG (true && (((decide (16 < m.inputs)) || (decide (16 < m.outputs))) == false)) (phX (.int .i64 (↑m.rows.length : Int))) (l 16) R12q := d0 rfl
    exact gstep_guard (Gj := true) (Bj := (decide (16 < m.inputs)) || (decide (16 < m.outputs))) rfl rfl rfl (gtrue (d1 rfl)) rfl (fun hG hB => ph_val (val_gtr (show l 16 = (.int .i64 (↑m.rows.length : Int)) from f16g.1 (gandT rfl hB)) rfl))
  · intro l R13q hle ha hd
    obtain ⟨d0, d1, _⟩ := hd
    have f13 : l 13 = (.bool ((decide (16 < m.inputs)) || (decide (16 < m.outputs)))) := d0 rfl
    have f17g : phG (true && (((decide (16 < m.inputs)) || (decide (16 < m.outputs))) == false)) (phX (.bool (decide (64 < (↑m.rows.length : Int))))) (l 17) R13q := d1 rfl
    exact gstep_plain rfl rfl rfl (ph_val (val_or f13 rfl (fun hb => (show l 17 = (.bool (decide (64 < (↑m.rows.length : Int)))) from f17g.1 (gandT rfl hb)))))
  intro v7 h8
  intro v9 h10
  intro v11 h12
  intro v13 h14
  intro v15 h16
  intro v17 h18
  intro v19 h20
  intro v21 h22
  intro v23 h24
  intro v25 h26
  intro v27 h28
  intro v29 h30
  intro v31 h32
  intro v33 h34
  obtain rfl := Eq.symm h10
  obtain rfl := Eq.symm h12
  obtain rfl := Eq.symm h14
  obtain rfl := Eq.symm h22
  obtain rfl := Eq.symm h24
  obtain rfl := Eq.symm h34
  refine wo_nil ?_
  refine wg_cond rfl (fun e35 => ?_) (fun e35 => ?_)
  · replace hd0 := sel_t e35 hd0; clear e35
    refine wg_seq ?_
    refine wg_region ?_
    refine wo_v rfl (val_assign (v := (.int .i64 3)) rfl) ?_
    refine wo_nil ?_
    refine wg_ret ?_
    obtain rfl := Option.some.inj hd0
    refine body_end (D := []) (J := []) (rs := [.tmp 2]) (vs := [(.int .i64 3)]) (le4.trans le6) rfl rfl ⟨rfl, trivial⟩ ?_
    exact ⟨rfl, rfl⟩
  · replace hd0 := sel_f e35 hd0; clear e35
    refine wg_skip ?_
    refine wg_seq ?_
    refine wg_seq ?_
    refine wg_guarded 14 [] [phP (tInt .i64) m.inputs, phX (.int .i64 m.inputs), phX (.bool (decide (m.inputs < 1))), phX (.bool (decide (m.inputs < 1))), phG (true && ((decide (m.inputs < 1)) == false)) (phP (tInt .i64) m.outputs), phG (true && ((decide (m.inputs < 1)) == false)) (phX (.int .i64 m.outputs)), phG (true && ((decide (m.inputs < 1)) == false)) (phX (.bool (decide (m.outputs < 1)))), phX (.bool ((decide (m.inputs < 1)) || (decide (m.outputs < 1)))), phX (.bool ((decide (m.inputs < 1)) || (decide (m.outputs < 1)))), phG (true && (((decide (m.inputs < 1)) || (decide (m.outputs < 1))) == false)) (phP (tSl false (tSl false kEdge)) m.rows), phG (true && (((decide (m.inputs < 1)) || (decide (m.outputs < 1))) == false)) (phR (tSl false (tSl false kEdge)) m.rows), phG (true && (((decide (m.inputs < 1)) || (decide (m.outputs < 1))) == false)) (phX (.int .i64 (↑m.rows.length : Int))), phG (true && (((decide (m.inputs < 1)) || (decide (m.outputs < 1))) == false)) (phX (.bool (decide ((↑m.rows.length : Int) < 1)))), phX (.bool (((decide (m.inputs < 1)) || (decide (m.outputs < 1))) || (decide ((↑m.rows.length : Int) < 1))))] (by kernel_rfl) (by kernel_rfl) (monoOk_of ⟨mono_p, mono_x, mono_x, mono_x, (mono_g mono_p), (mono_g mono_x), (mono_g mono_x), mono_x, mono_x, (mono_g mono_p), (mono_g mono_r), (mono_g mono_x), (mono_g mono_x), mono_x, trivial⟩) ⟨?_, ?_, ?_, ?_, ?_, ?_, ?_, ?_, ?_, ?_, ?_, ?_, ?_, ?_, trivial⟩ fun R36 le37 => ?_
    · intro l R0q hle ha hd
      have a1 : l 1 = v1 := ha 1 rfl
      exact gstep_plain rfl rfl rfl (ph_fieldR fd27_0 pt_Mach0 a1 ((h2.mono le6).mono hle))
    · intro l R1q hle ha hd
      obtain ⟨d0, _⟩ := hd
      have f19 : phP (tInt .i64) m.inputs (l 19) R1q := d0 rfl
      exact gstep_plain rfl rfl rfl (ph_exact (ph_loadR ty3 rfl f19) (fun _ _ h => vrep_int.1 h))
    · intro l R2q hle ha hd
      obtain ⟨d0, _⟩ := hd
      have f20 : l 20 = (.int .i64 m.inputs) := d0 rfl
      exact gstep_plain rfl rfl rfl (ph_val (val_lss f20 rfl))
    · intro l R3q hle ha hd
      obtain ⟨d0, _⟩ := hd
      have f21 : l 21 = (.bool (decide (m.inputs < 1))) := d0 rfl
      exact gstep_plain rfl rfl rfl (ph_val (val_move f21))
    · intro l R4q hle ha hd
      obtain ⟨d0, _⟩ := hd
      have a1 : l 1 = v1 := ha 1 rfl
      exact gstep_guard (Gj := true) (Bj := decide (m.inputs < 1)) rfl rfl rfl (gtrue (d0 rfl)) rfl (fun hG hB => ph_fieldR fd27_1 pt_Mach1 a1 ((h2.mono le6).mono hle))
    · intro l R5q hle ha hd
      obtain ⟨d0, d1, _⟩ := hd
      have f23g : phG (true && ((decide (m.inputs < 1)) == false)) (phP (tInt .i64) m.outputs) (l 23) R5q := d0 rfl
      exact gstep_guard (Gj := true) (Bj := decide (m.inputs < 1)) rfl rfl rfl (gtrue (d1 rfl)) rfl (fun hG hB => ph_exact (ph_loadR ty3 rfl (f23g.1 (gandT rfl hB))) (fun _ _ h => vrep_int.1 h))
    · intro l R6q hle ha hd
      obtain ⟨d0, d1, _⟩ := hd
      have f24g : phG (true && ((decide (m.inputs < 1)) == false)) (phX (.int .i64 m.outputs)) (l 24) R6q := d0 rfl
      exact gstep_guard (Gj := true) (Bj := decide (m.inputs < 1)) rfl rfl rfl (gtrue (d1 rfl)) rfl (fun hG hB => ph_val (val_lss (show l 24 = (.int .i64 m.outputs) from f24g.1 (gandT rfl hB)) rfl))
    · intro l R7q hle ha hd
      obtain ⟨d0, d1, _⟩ := hd
      have f22 : l 22 = (.bool (decide (m.inputs < 1))) := d0 rfl
      have f25g : phG (true && ((decide (m.inputs < 1)) == false)) (phX (.bool (decide (m.outputs < 1)))) (l 25) R7q := d1 rfl
      exact gstep_plain rfl rfl rfl (ph_val (val_or f22 rfl (fun hb => (show l 25 = (.bool (decide (m.outputs < 1))) from f25g.1 (gandT rfl hb)))))
    · intro l R8q hle ha hd
      obtain ⟨d0, d1, _⟩ := hd
      have f26 : l 26 = (.bool ((decide (m.inputs < 1)) || (decide (m.outputs < 1)))) := d0 rfl
      exact gstep_plain rfl rfl rfl (ph_val (val_move f26))
    · intro l R9q hle ha hd
      obtain ⟨d0, _⟩ := hd
      have a1 : l 1 = v1 := ha 1 rfl
      exact gstep_guard (Gj := true) (Bj := (decide (m.inputs < 1)) || (decide (m.outputs < 1))) rfl rfl rfl (gtrue (d0 rfl)) rfl (fun hG hB => ph_fieldR fd27_2 pt_Mach2 a1 ((h2.mono le6).mono hle))
    · intro l R10q hle ha hd
      obtain ⟨d0, d1, _⟩ := hd
      have f28g : phG (true && (((decide (m.inputs < 1)) || (decide (m.outputs < 1))) == false)) (phP (tSl false (tSl false kEdge)) m.rows) (l 28) R10q := d0 rfl
      exact gstep_guard (Gj := true) (Bj := (decide (m.inputs < 1)) || (decide (m.outputs < 1))) rfl rfl rfl (gtrue (d1 rfl)) rfl (fun hG hB => ph_loadR ty25 rfl (f28g.1 (gandT rfl hB)))
    · intro l R11q hle ha hd
      obtain ⟨d0, d1, _⟩ := hd
      have f29g : phG (true && (((decide (m.inputs < 1)) || (decide (m.outputs < 1))) == false)) (phR (tSl false (tSl false kEdge)) m.rows) (l 29) R11q := d0 rfl
      exact gstep_guard (Gj := true) (Bj := (decide (m.inputs < 1)) || (decide (m.outputs < 1))) rfl rfl rfl (gtrue (d1 rfl)) rfl (fun hG hB => ph_val (val_lenR rfl Try.underlying25 rfl (sl_s (f29g.1 (gandT rfl hB)))))
    · intro l R12q hle ha hd
      obtain ⟨d0, d1, _⟩ := hd
      have f30g : phG (true && (((decide (m.inputs < 1)) || (decide (m.outputs < 1))) == false)) (phX (.int .i64 (↑m.rows.length : Int))) (l 30) R12q := d0 rfl
      exact gstep_guard (Gj := true) (Bj := (decide (m.inputs < 1)) || (decide (m.outputs < 1))) rfl rfl rfl (gtrue (d1 rfl)) rfl (fun hG hB => ph_val (val_lss (show l 30 = (.int .i64 (↑m.rows.length : Int)) from f30g.1 (gandT rfl hB)) rfl))
    · intro l R13q hle ha hd
      obtain ⟨d0, d1, _⟩ := hd
      have f27 : l 27 = (.bool ((decide (m.inputs < 1)) || (decide (m.outputs < 1)))) := d0 rfl
      have f31g : phG (true && (((decide (m.inputs < 1)) || (decide (m.outputs < 1))) == false)) (phX (.bool (decide ((↑m.rows.length : Int) < 1)))) (l 31) R13q := d1 rfl
      exact gstep_plain rfl rfl rfl (ph_val (val_or f27 rfl (fun hb => (show l 31 = (.bool (decide ((↑m.rows.length : Int) < 1))) from f31g.1 (gandT rfl hb)))))
    intro v38 h39
    intro v40 h41
    intro v42 h43
    intro v44 h45
    intro v46 h47
    intro v48 h49
    intro v50 h51
    intro v52 h53
    intro v54 h55
    intro v56 h57
    intro v58 h59
    intro v60 h61
    intro v62 h63
    intro v64 h65
    obtain rfl := Eq.symm h41
    obtain rfl := Eq.symm h43
    obtain rfl := Eq.symm h45
    obtain rfl := Eq.symm h53
    obtain rfl := Eq.symm h55
    obtain rfl := Eq.symm h65
    refine wo_nil ?_
    refine wg_cond rfl (fun e66 => ?_) (fun e66 => ?_)
    · replace hd0 := sel_t e66 hd0; clear e66
      refine wg_seq ?_
      refine wg_region ?_
      refine wo_v rfl (val_assign (v := (.int .i64 1)) rfl) ?_
      refine wo_nil ?_
      refine wg_ret ?_
      obtain rfl := Option.some.inj hd0
      refine body_end (D := []) (J := []) (rs := [.tmp 2]) (vs := [(.int .i64 1)]) ((le4.trans le6).trans le37) rfl rfl ⟨rfl, trivial⟩ ?_
      exact ⟨rfl, rfl⟩
    · replace hd0 := sel_f e66 hd0; clear e66
      refine wg_skip ?_
      replace hd0 := bd_some hd0; obtain ⟨q68, hd1, hd0⟩ := hd0
      refine wg_meet (γ := Unit) true [33, 34, 35, 36, 37, 38, 39, 4, 40, 41, 42, 43, 44, 45, 46, 47, 48, 49, 2, 50] (fun g => []) (fun g => [] ++ A) (fun g R => q68 = Ex.go g ∧ True) ?_ ?_
      ·
        refine wg_seq ?_
        refine wg_region ?_
        refine wo_fieldR rfl fd27_2 pt_Mach2 rfl (h2.mono (le6.trans le37)) fun v71 h72 => ?_
        refine wo_loadR rfl ty25 rfl h72 fun v73 h74 => ?_
        refine wo_v rfl (val_lenR rfl Try.underlying25 rfl (sl_s h74)) ?_
        refine wo_v rfl (val_move (v := (.int .i64 0)) rfl) ?_
        refine wo_nil ?_
        refine wg_block ?_
        refine wg_loopS (γ := Nat × Int) true [37, 38, 39, 4, 40, 41, 42, 43, 44, 45, 46, 47, 48, 49, 2, 50, 36] (fun g => [(36, (.int .i64 g.2))]) (fun g => [] ++ A) (fun g R => machines_Check_L1 N m g.1 g.2 = some q68 ∧ True) (fun g => g.1) (N, 0) ⟨rfl, trivial⟩ ⟨[], List.Perm.refl _⟩ ⟨hd1, trivial⟩ (fun _ => rfl) ?_
        clear hd1
        rintro ⟨F75, x76⟩ j111 D112 R77 hD113 le78 ⟨hd1, _⟩
        obtain rfl := hD113 rfl
        rcases F75 with _ | F75
        · exact none_elim hd1
        replace hd1 : machines_Check_L1 N m (F75 + 1) x76 = some q68 := hd1; rw [machines_Check_L1] at hd1
        refine wg_seq ?_
        refine wg_region ?_
        refine wo_v rfl (val_lss rfl rfl) ?_
        refine wo_nil ?_
        refine wg_seq ?_
        refine wg_cond rfl (fun e79 => ?_) (fun e79 => ?_)
        · replace hd1 := sel_t e79 hd1; clear e79
          refine wg_skip ?_
          refine wg_seq ?_
          refine wg_block ?_
          refine wg_seq ?_
          refine wg_region ?_
          have g80 := (gd_some hd1).1; replace hd1 := (gd_some hd1).2
          refine wo_indexR (i := x76.toNat) rfl sl25 rfl (sl_s (h74.mono le78)) (idx_nonneg rfl g80.1) (okI_lt g80) fun v81 h82 => ?_
          refine wo_loadR rfl ty50 rfl h82 fun v83 h84 => ?_
          refine wo_v rfl (val_assign (v := v83) rfl) ?_
          refine wo_nil ?_
          refine wg_seq ?_
          replace hd1 := bd_some hd1; obtain ⟨y85, c86, hd1⟩ := hd1
          refine wg_guarded 10 [] [phX v83, phX (.int .i64 (↑(ix m.rows x76).length : Int)), phP (tInt .i64) m.inputs, phX (.int .i64 m.inputs), phX (.bool (decide ((↑(ix m.rows x76).length : Int) ≠ m.inputs))), phX (.bool (decide ((↑(ix m.rows x76).length : Int) ≠ m.inputs))), phG (true && ((decide ((↑(ix m.rows x76).length : Int) ≠ m.inputs)) == false)) (phX v83), phG (true && ((decide ((↑(ix m.rows x76).length : Int) ≠ m.inputs)) == false)) (phX (.func (.func 56) #[] #[v1])), phG (true && ((decide ((↑(ix m.rows x76).length : Int) ≠ m.inputs)) == false)) (phX (.bool (y85.getD default))), phX (.bool ((decide ((↑(ix m.rows x76).length : Int) ≠ m.inputs)) || (y85.getD default)))] (by kernel_rfl) (by kernel_rfl) (monoOk_of ⟨mono_x, mono_x, mono_p, mono_x, mono_x, mono_x, (mono_g mono_x), (mono_g mono_x), (mono_g mono_x), mono_x, trivial⟩) ⟨?_, ?_, ?_, ?_, ?_, ?_, ?_, ?_, ?_, ?_, trivial⟩ fun R87 le88 => ?_
          · intro l R0q hle ha hd
            have a4 : l 4 = v83 := ha 4 rfl
            exact gstep_plain rfl rfl rfl (ph_val (val_move a4))
          · intro l R1q hle ha hd
            obtain ⟨d0, _⟩ := hd
            have f40 : l 40 = v83 := d0 rfl
            exact gstep_plain rfl rfl rfl (ph_val (val_lenR rfl Try.underlying50 f40 (sl_s (h84.mono hle))))
          · intro l R2q hle ha hd
            have a1 : l 1 = v1 := ha 1 rfl
            exact gstep_plain rfl rfl rfl (ph_fieldR fd27_0 pt_Mach0 a1 ((h2.mono ((le6.trans le37).trans le78)).mono hle))
          · intro l R3q hle ha hd
            obtain ⟨d0, _⟩ := hd
            have f42 : phP (tInt .i64) m.inputs (l 42) R3q := d0 rfl
            exact gstep_plain rfl rfl rfl (ph_exact (ph_loadR ty3 rfl f42) (fun _ _ h => vrep_int.1 h))
          · intro l R4q hle ha hd
            obtain ⟨d0, d1, _⟩ := hd
            have f41 : l 41 = (.int .i64 (↑(ix m.rows x76).length : Int)) := d0 rfl
            have f43 : l 43 = (.int .i64 m.inputs) := d1 rfl
            exact gstep_plain rfl rfl rfl (ph_val (val_neq f41 f43))
          · intro l R5q hle ha hd
            obtain ⟨d0, _⟩ := hd
            have f44 : l 44 = (.bool (decide ((↑(ix m.rows x76).length : Int) ≠ m.inputs))) := d0 rfl
            exact gstep_plain rfl rfl rfl (ph_val (val_move f44))
          · intro l R6q hle ha hd
            obtain ⟨d0, _⟩ := hd
            have a4 : l 4 = v83 := ha 4 rfl
            exact gstep_guard (Gj := true) (Bj := decide ((↑(ix m.rows x76).length : Int) ≠ m.inputs)) rfl rfl rfl (gtrue (d0 rfl)) rfl (fun hG hB => ph_val (val_move a4))
          · intro l R7q hle ha hd
            obtain ⟨d0, _⟩ := hd
            have a1 : l 1 = v1 := ha 1 rfl
            exact gstep_guard (Gj := true) (Bj := decide ((↑(ix m.rows x76).length : Int) ≠ m.inputs)) rfl rfl rfl (gtrue (d0 rfl)) rfl (fun hG hB => ph_val (val_makeFuncL (fs := []) (cs := [v1]) rfl (by simp only [List.map, ev, a1] <;> rfl)))
          · intro l R8q hle ha hd
            obtain ⟨d0, d1, d2, d3, _⟩ := hd
            have f46g : phG (true && ((decide ((↑(ix m.rows x76).length : Int) ≠ m.inputs)) == false)) (phX v83) (l 46) R8q := d0 rfl
            have f47g : phG (true && ((decide ((↑(ix m.rows x76).length : Int) ≠ m.inputs)) == false)) (phX (.func (.func 56) #[] #[v1])) (l 47) R8q := d1 rfl
            exact gstep_guard (Gj := true) (Bj := decide ((↑(ix m.rows x76).length : Int) ≠ m.inputs)) rfl rfl rfl (gtrue (d2 rfl)) rfl (fun hG hB => ph_callP (vs := [v83, (.func (.func 56) #[] #[v1])]) en55 (by simp only [List.map, ev, (show l 46 = v83 from f46g.1 (gandT rfl hB)), (show l 47 = (.func (.func 56) #[] #[v1]) from f47g.1 (gandT rfl hB))] <;> rfl) ((by have z := (gop_def c86 (gandT hG hB)); exact c_slices_ContainsFunc_api_Edge (h84.mono hle) ((fok1_of (cs := [v1]) en56 fun R1 hq z0 u0 y k0 hy => by obtain rfl := vrep_Edge.1 k0; exact CallP.mono (c_machines_Check_1 ((h2.mono ((le6.trans le37).trans le78)).mono hq) hy) fun v R2 _ hv => vrep_bool.2 hv).mono hle) z)) (fun _ _ h => h))
          · intro l R9q hle ha hd
            obtain ⟨d0, d1, _⟩ := hd
            have f45 : l 45 = (.bool (decide ((↑(ix m.rows x76).length : Int) ≠ m.inputs))) := d0 rfl
            have f48g : phG (true && ((decide ((↑(ix m.rows x76).length : Int) ≠ m.inputs)) == false)) (phX (.bool (y85.getD default))) (l 48) R9q := d1 rfl
            exact gstep_plain rfl rfl rfl (ph_val (val_or f45 rfl (fun hb => (show l 48 = (.bool (y85.getD default)) from f48g.1 (gandT rfl hb)))))
          intro v89 h90
          intro v91 h92
          intro v93 h94
          intro v95 h96
          intro v97 h98
          intro v99 h100
          intro v101 h102
          intro v103 h104
          intro v105 h106
          intro v107 h108
          obtain rfl := Eq.symm h90
          obtain rfl := Eq.symm h92
          obtain rfl := Eq.symm h96
          obtain rfl := Eq.symm h98
          obtain rfl := Eq.symm h100
          obtain rfl := Eq.symm h108
          refine wo_nil ?_
          refine wg_cond rfl (fun e109 => ?_) (fun e109 => ?_)
          · replace hd1 := sel_t e109 hd1; clear e109
            refine wg_seq ?_
            refine wg_region ?_
            refine wo_v rfl (val_assign (v := (.int .i64 1)) rfl) ?_
            refine wo_nil ?_
            refine wg_ret ?_
            replace hd0 := on_rt hd1 hd0
            obtain rfl := Option.some.inj hd0
            refine body_end (D := []) (J := []) (rs := [.tmp 2]) (vs := [(.int .i64 1)]) ((((le4.trans le6).trans le37).trans le78).trans le88) rfl rfl ⟨rfl, trivial⟩ ?_
            exact ⟨rfl, rfl⟩
          · replace hd1 := sel_f e109 hd1; clear e109
            refine wg_skip ?_
            refine wg_region ?_
            have g110 := (gd_some hd1).1; replace hd1 := (gd_some hd1).2
            refine wo_v rfl (val_add rfl rfl g110) ?_
            refine wo_v rfl (val_move (v := (.int .i64 (x76 + 1))) rfl) ?_
            refine wo_nil ?_
            exact ⟨(fun _ => rfl), le88, (by repeat (first | exact off_self | refine off_upd rfl ?_ | refine off_setl rfl ?_ | refine off_mask_sub rfl ?_)), (F75, x76 + 1), Nat.lt_succ_self _, ⟨rfl, trivial⟩, ⟨[], List.Perm.refl _⟩, hd1, trivial⟩
        · replace hd1 := sel_f e79 hd1; clear e79
          refine wg_exit ?_
          exact ⟨(fun _ => rfl), le78, (by repeat (first | exact off_self | refine off_upd rfl ?_ | refine off_setl rfl ?_ | refine off_mask_sub rfl ?_)), (), trivial, ⟨[], List.Perm.refl _⟩, (Option.some.inj hd1).symm, trivial⟩
      ·
        rintro o67 j114 D115 R69 hD116 le70 ⟨rfl, _⟩
        obtain rfl := hD116 rfl
        replace hd0 := on_go hd0
        refine wg_seq ?_
        refine wg_region ?_
        refine wo_v rfl (val_assign (v := (.int .i64 0)) rfl) ?_
        refine wo_nil ?_
        refine wg_ret ?_
        obtain rfl := Option.some.inj hd0
        refine body_end (D := []) (J := []) (rs := [.tmp 2]) (vs := [(.int .i64 0)]) (((le4.trans le6).trans le37).trans le70) rfl rfl ⟨rfl, trivial⟩ ?_
        exact ⟨rfl, rfl⟩
theorem en37 : Enters Try.prog 37 := enters_of Try.func37 rfl (by kernel_rfl)
theorem zo36 {b0 : Bool} : ZeroOk Try.prog 36 (tSl b0 (tInt .i64)) ([] : List Int) 24 := by
  obtain ⟨i, zv, hi, hz, hs, hb, hv⟩ := info_zero (P := Try.prog) (e := 36) (zv := (.slice none 0 0)) (k := 1) (b := 24) (by kernel_rfl)
  exact ⟨i, zv, hi, hz, hs, hb, fun R => by subst hv; exact (rep_one rfl sl_nil)⟩
theorem zo4 : ZeroOk Try.prog 4 tBool false 1 := by
  obtain ⟨i, zv, hi, hz, hs, hb, hv⟩ := info_zero (P := Try.prog) (e := 4) (zv := (.bool false)) (k := 1) (b := 1) (by kernel_rfl)
  exact ⟨i, zv, hi, hz, hs, hb, fun R => by subst hv; exact rfl⟩
theorem za29 : ∀ w, ∃ z, (zeroValue 29).run Try.prog w = .ok z w ∧ z.cells = ([.slice none 0 0] : List Value).toArray := fun w => ⟨(.slice none 0 0), by kernel_rfl, rfl⟩
theorem za30 : ∀ w, ∃ z, (zeroValue 30).run Try.prog w = .ok z w ∧ z.cells = ([.slice none 0 0] : List Value).toArray := fun w => ⟨(.slice none 0 0), by kernel_rfl, rfl⟩
theorem sz29 : ∀ w, (sizeOf 29).run Try.prog w = .ok 1 w := fun w => by kernel_rfl
theorem sz30 : ∀ w, (sizeOf 30).run Try.prog w = .ok 1 w := fun w => by kernel_rfl
theorem c_walks_arrivals {N : Nat} {R : RH} {m : Mach} {v_m : Value} (h_m : VRep (kMach false false) R v_m m) {from_ : Int} {r : Mach × Int} (hd0 : walks_arrivals N m from_ = some r) : CallP Try.prog 58 #[v_m, (.int .i64 from_)] R (fun v R' => ∃ u0 u1, v = .func (.func 72) #[] #[u0, u1] ∧ PRep (kMach false false) R' u0 r.1 ∧ PRep (tInt .i64) R' u1 r.2) := by
  refine callP_of_wg (args := [v_m, (.int .i64 from_)]) Try.func58 rfl rfl fun A => ?_
  rw [walks_arrivals] at hd0
  refine wg_seq ?_
  refine wg_region ?_
  refine wo_boxR (T := (kMach false false)) rfl rfl h_m fun v1 R3 le4 h2 => ?_
  refine wo_boxR (T := (tInt .i64)) rfl rfl (vrep_int.2 rfl) fun v5 R7 le8 h6 => ?_
  refine wo_v rfl (val_assign (v := .nilFunc) rfl) ?_
  refine wo_nil ?_
  refine wg_seq ?_
  refine wg_region ?_
  refine wo_v rfl (val_makeFuncL (fs := []) (cs := [v1, v5]) rfl rfl) ?_
  refine wo_v rfl (val_assign (v := (.func (.func 72) #[] #[v1, v5])) rfl) ?_
  refine wo_nil ?_
  refine wg_ret ?_
  obtain rfl := Option.some.inj hd0
  refine body_end (D := []) (J := []) (rs := [.tmp 4]) (vs := [(.func (.func 72) #[] #[v1, v5])]) (le4.trans le8) rfl rfl ⟨rfl, trivial⟩ ?_
  exact ⟨rfl, ⟨v1, v5, rfl, (h2.mono le8), h6⟩⟩
theorem en58 : Enters Try.prog 58 := enters_of Try.func58 rfl (by kernel_rfl)
theorem sl30 : SlOk Try.prog 30 4 tBool := ⟨Try.underlying30, ty4⟩
theorem zo102 : ZeroOk Try.prog 102 kSwalks_arrival (⟨(0 : Int), (0 : Int), (0 : Int)⟩ : Swalks_arrival) 24 := by
  obtain ⟨i, zv, hi, hz, hs, hb, hv⟩ := info_zero (P := Try.prog) (e := 102) (zv := (.agg #[(.int .i64 0), (.int .i64 0), (.int .i64 0)])) (k := 3) (b := 24) (by kernel_rfl)
  exact ⟨i, zv, hi, hz, hs, hb, fun R => by subst hv; exact ⟨_, _, rfl, rfl, ⟨_, _, rfl, rfl, rfl⟩⟩⟩
theorem ty102 : TyOk Try.prog 102 kSwalks_arrival := by
  obtain ⟨i, hi, hs⟩ : ∃ i, Try.prog.info? 102 = some i ∧ i.size = 3 := info_size (by kernel_rfl)
  exact tyOk_of Try.underlying102 hi rfl hs
theorem sl117 : SlOk Try.prog 117 102 kSwalks_arrival := ⟨Try.underlying117, ty102⟩
theorem za102 : ∀ w, ∃ z, (zeroValue 102).run Try.prog w = .ok z w ∧ z.cells = ([.int .i64 0, .int .i64 0, .int .i64 0] : List Value).toArray := fun w => ⟨(.agg #[(.int .i64 0), (.int .i64 0), (.int .i64 0)]), by kernel_rfl, rfl⟩
theorem sz102 : ∀ w, (sizeOf 102).run Try.prog w = .ok 3 w := fun w => by kernel_rfl
theorem ag102 : ∀ w, (isAgg 102).run Try.prog w = .ok true w := fun w => by kernel_rfl
theorem fd102_0 : FieldOk Try.prog 102 0 0 := by
  obtain ⟨i, hi, hs⟩ : ∃ i, Try.prog.info? 3 = some i ∧ i.size = 1 := info_size (by kernel_rfl)
  exact fieldOk_of Try.underlying102 rfl rfl hi (by rw [hs]; rfl)
theorem c_walks_arrivals_1 {N : Nat} {R : RH} {p0_ : Mach} {v_p0_ : Value} (h_p0_ : PRep (kMach false false) R v_p0_ p0_) {p1_ : Int} {v_p1_ : Value} (h_p1_ : PRep (tInt .i64) R v_p1_ p1_) : IterS Try.prog 72 [v_p0_, v_p1_] R (fun (x : Swalks_arrival) vs R => vs = [(enc_Swalks_arrival x)]) (fun σ B s => walks_arrivals_1 N p0_ p1_ σ B s) := by
  intro yv σ B I R1 O s0 s1 hle0 hmI h0 hd0 hy
  refine callG_of_wg (args := [yv, v_p0_, v_p1_]) Try.func72 rfl rfl fun A => ?_
  dsimp only at hd0
  rw [walks_arrivals_1] at hd0
  refine wg_seq ?_
  refine wg_region ?_
  refine wo_fieldR rfl fd27_2 pt_Mach2 rfl (h_p0_.mono hle0) fun v1 h2 => ?_
  refine wo_loadR rfl ty25 rfl h2 fun v3 h4 => ?_
  refine wo_v rfl (val_lenR rfl Try.underlying25 rfl (sl_s h4)) ?_
  have g9 := (gd_some hd0).1; replace hd0 := (gd_some hd0).2
  refine wo_make (T := tBool) (m := (↑p0_.rows.length : Int).toNat) (c := (↑p0_.rows.length : Int).toNat) rfl Try.underlying30 zo4 (idx_nonneg rfl g9.1) (idx_nonneg rfl g9.1) (Nat.le_refl _) (okM_b g9) (okM_n g9) fun v5 f6 cap7 h8 => ?_
  refine wo_v rfl (val_assign (v := v5) rfl) ?_
  refine wo_nil ?_
  refine wg_seq ?_
  refine wg_region ?_
  refine wo_v rfl (val_move (v := v5) rfl) ?_
  refine wo_loadR rfl ty3 rfl (h_p1_.mono hle0) fun v11 h12 => ?_
  obtain rfl := vrep_int.1 h12
  have g13 := (gd_some hd0).1; replace hd0 := (gd_some hd0).2
  refine wo_indexO (i := p1_.toNat) rfl sl30 rfl h8 (idx_nonneg rfl g13.1) (okI_lt g13) fun v14 h15 => ?_
  refine wo_storeO (i := p1_.toNat) (j := 0) ty4 h8 rfl rfl h15 (okI_lt g13) rfl (vrep_bool.2 rfl) fun f16 h17 => ?_
  refine wo_nil ?_
  refine wg_seq ?_
  refine wg_region ?_
  refine wo_loadR rfl ty3 rfl (h_p1_.mono hle0) fun v18 h19 => ?_
  obtain rfl := vrep_int.1 h19
  refine wo_v rfl (val_buildL (ps := [(0, (.int .i64 p1_)), (1, (.int .i64 (-1))), (2, (.int .i64 (-1)))]) (v := (.agg #[(.int .i64 p1_), (.int .i64 (-1)), (.int .i64 (-1))])) rfl (fun w => by kernel_rfl)) ?_
  refine wo_lit (T := kSwalks_arrival) (X := ([(⟨p1_, (-1), (-1)⟩ : Swalks_arrival)] : List Swalks_arrival)) (ps := [(0, (.agg #[(.int .i64 p1_), (.int .i64 (-1)), (.int .i64 (-1))]))]) (css := [[(.int .i64 p1_), (.int .i64 (-1)), (.int .i64 (-1))]]) rfl Try.underlying117 zo102 rfl rfl (lit_reps ⟨⟨_, _, rfl, rfl, ⟨_, _, rfl, rfl, rfl⟩⟩, trivial⟩) rfl rfl (by decide) fun v20 f21 cap22 h23 => ?_
  refine wo_v rfl (val_assign (v := v20) rfl) ?_
  refine wo_nil ?_
  refine wg_block ?_
  refine wg_loopS (γ := Nat × σ × (List Bool) × (List Swalks_arrival) × (List Frag) × Frag × Value × Frag) true [19, 20, 21, 22, 23, 24, 6, 25, 26, 5, 27, 28, 29, 30, 31, 32, 33, 34, 35, 36, 37, 38, 39, 40, 41, 42, 8, 7, 43, 44, 45, 46, 47, 48, 49, 50, 51, 52, 53, 54, 55, 56, 57, 58, 59, 60, 61, 62, 63, 64, 65, 66, 67] (fun g => [(5, g.2.2.2.2.2.2.1)]) (fun g => [g.2.2.2.2.2.1, g.2.2.2.2.2.2.2] ++ (g.2.2.2.2.1 ++ A)) (fun g R => walks_arrivals_1_L1 N σ B p0_ g.1 g.2.1 g.2.2.1 g.2.2.2.1 = some s1 ∧ I g.2.1 R g.2.2.2.2.1 ∧ ORep tBool R g.2.2.2.2.2.1 v5 g.2.2.1 ∧ capOf v5 = g.2.2.1.length ∧ ORep kSwalks_arrival R g.2.2.2.2.2.2.2 g.2.2.2.2.2.2.1 g.2.2.2.1 ∧ True) (fun g => g.1) (N, s0, (up (mk (↑p0_.rows.length : Int) false) p1_ true), ([(⟨p1_, (-1), (-1)⟩ : Swalks_arrival)] : List Swalks_arrival), O, f16, v20, f21) ⟨rfl, trivial⟩ ⟨[], (pk 1 rfl (pk 0 rfl (List.Perm.refl _)))⟩ ⟨hd0, h0, h17, ((cap7.trans List.length_replicate.symm).trans List.length_set.symm), h23, trivial⟩ (fun _ => rfl) ?_
  clear hd0
  rintro ⟨F25, x26, x27, x28, OJ31, f33, v36, f37⟩ j167 D168 R29 hD169 le30 ⟨hd0, hi32, h34, ht35, h38, _⟩
  obtain rfl := hD169 rfl
  rcases F25 with _ | F25
  · exact none_elim hd0
  replace hd0 : walks_arrivals_1_L1 N σ B p0_ (F25 + 1) x26 x27 x28 = some s1 := hd0; rw [walks_arrivals_1_L1] at hd0
  replace hd0 := bd_some hd0; obtain ⟨q40, hd1, hd0⟩ := hd0
  refine wg_meetT (γ := (σ × List Bool × List Swalks_arrival) × (List Frag) × Frag × Value × Frag) true [19, 20, 21, 22, 23, 24, 6, 25, 26, 5, 27, 28, 29, 30, 31, 32, 33, 34, 35, 36, 37, 38, 39, 40, 41, 42, 8, 7, 43, 44, 45, 46, 47, 48, 49, 50, 51, 52, 53, 54, 55, 56, 57, 58, 59, 60, 61, 62, 63, 64, 65, 66, 67] (fun g => [(5, g.2.2.2.1)]) (fun g => [g.2.2.1, g.2.2.2.2] ++ (g.2.1 ++ A)) (fun g R => q40 = Ex.go g.1 ∧ I g.1.1 R g.2.1 ∧ ORep tBool R g.2.2.1 v5 g.1.2.1 ∧ capOf v5 = g.1.2.1.length ∧ ORep kSwalks_arrival R g.2.2.2.2 g.2.2.2.1 g.1.2.2 ∧ True) round_conv ?_ ?_
  ·
    refine wg_seq ?_
    refine wg_seq ?_
    refine wg_region ?_
    refine wo_v rfl (val_move (v := v36) rfl) ?_
    refine wo_v rfl (val_lenO rfl Try.underlying117 rfl h38) ?_
    refine wo_v rfl (val_gtr rfl rfl) ?_
    refine wo_nil ?_
    refine wg_cond rfl (fun e51 => ?_) (fun e51 => ?_)
    · replace hd1 := sel_t e51 hd1; clear e51
      refine wg_skip ?_
      refine wg_block ?_
      refine wg_seq ?_
      refine wg_region ?_
      refine wo_v rfl (val_move (v := v36) rfl) ?_
      have g52 := (gd_some hd1).1; replace hd1 := (gd_some hd1).2
      refine wo_indexO (i := (0 : Int).toNat) rfl sl117 rfl h38 (idx_nonneg rfl g52.1) (okI_lt g52) fun v53 h54 => ?_
      refine wo_loadO (i := (0 : Int).toNat) (j := 1) rfl ty102 h38 rfl rfl h54 (okI_lt g52) fun v55 h56 => ?_
      obtain rfl := vrep_Swalks_arrival.1 h56
      refine wo_alloc rfl za102 fun b57 => ?_
      refine wo_store (i := 0) (vs := [(.int .i64 ((ix x28 0).f_state)), (.int .i64 ((ix x28 0).f_from)), (.int .i64 ((ix x28 0).f_input))]) sz102 rfl rfl rfl rfl rfl rfl (one_cons rfl (one_cons rfl (one_cons rfl one_nil))) ?_
      refine wo_nil ?_
      refine wg_seq ?_
      refine wg_region ?_
      refine wo_v rfl (val_move (v := v36) rfl) ?_
      have g62 := (gd_some hd1).1; replace hd1 := (gd_some hd1).2
      refine wo_sliceQ (v := v36) (lo := (1 : Int).toNat) (hi := (↑x28.length : Int).toNat) (mx := (capOf v36)) rfl sl117 rfl h38 (.inr ⟨_, congrArg some (idx_nonneg rfl g62.1)⟩) (.inl ⟨rfl, rfl, rfl⟩) (.inl ⟨rfl, rfl⟩) (okS_1 g62) (okS_2 g62) (Nat.le_trans (okS_2 g62) (orep_len h38)) (Nat.le_refl _) fun v59 h60 cap61 => ?_
      refine wo_v rfl (val_assign (v := v59) rfl) ?_
      refine wo_nil ?_
      refine wg_seq ?_
      refine wg_seq ?_
      refine wg_region ?_
      refine wo_v rfl (val_move (v := yv) rfl) ?_
      refine wo_v rfl (val_loadBA (i := 0) ag102 sz102 rfl rfl rfl rfl) ?_
      replace hd1 := bd_some hd1; obtain ⟨y63, c64, hd1⟩ := hd1
      refine wo_yieldS (vs := [(.agg #[(.int .i64 ((ix x28 0).f_state)), (.int .i64 ((ix x28 0).f_from)), (.int .i64 ((ix x28 0).f_input))])]) (J := [box b57 [(.int .i64 ((ix x28 0).f_state)), (.int .i64 ((ix x28 0).f_from)), (.int .i64 ((ix x28 0).f_input))] 102, f33, f37]) (Oc := OJ31) (A := A) rfl rfl rfl rfl (hy (⟨(ix x28 0).f_state, (ix x28 0).f_from, (ix x28 0).f_input⟩ : Swalks_arrival) x26 y63.1 y63.2 _ _ [(.agg #[(.int .i64 ((ix x28 0).f_state)), (.int .i64 ((ix x28 0).f_from)), (.int .i64 ((ix x28 0).f_input))])] le30 rfl hi32 c64) fun R65 OJ67 le66 hi68 => ?_
      refine wo_v rfl (val_not rfl) ?_
      refine wo_nil ?_
      refine wg_cond rfl (fun e69 => ?_) (fun e69 => ?_)
      · replace hd1 := sel_t e69 hd1; clear e69
        refine wg_ret ?_
        replace hd0 := on_rt hd1 hd0
        obtain rfl := Option.some.inj hd0
        refine body_endG (D := []) (J := [box b57 [(.int .i64 ((ix x28 0).f_state)), (.int .i64 ((ix x28 0).f_from)), (.int .i64 ((ix x28 0).f_input))] 102, f33, f37]) (O' := OJ67) (rs := []) (vs := []) (le30.trans le66) (List.Perm.refl _) rfl trivial ?_
        exact hi68
      · replace hd1 := sel_f e69 hd1; clear e69
        refine wg_skip ?_
        refine wg_seq ?_
        refine wg_region ?_
        refine wo_fieldR rfl fd27_2 pt_Mach2 rfl (h_p0_.mono ((hle0.trans le30).trans le66)) fun v70 h71 => ?_
        refine wo_loadR rfl ty25 rfl h71 fun v72 h73 => ?_
        refine wo_v rfl (val_fieldB fd102_0 rfl) ?_
        refine wo_v rfl (val_loadB (i := 0) ag3 rfl rfl rfl) ?_
        have g74 := (gd_some hd1).1; replace hd1 := (gd_some hd1).2
        refine wo_indexR (i := ((ix x28 0).f_state).toNat) rfl sl25 rfl (sl_s h73) (idx_nonneg rfl g74.1) (okI_lt g74) fun v75 h76 => ?_
        refine wo_loadR rfl ty50 rfl h76 fun v77 h78 => ?_
        refine wo_v rfl (val_lenR rfl Try.underlying50 rfl (sl_s h78)) ?_
        refine wo_v rfl (val_move (v := (.int .i64 0)) rfl) ?_
        refine wo_nil ?_
        refine wg_block ?_
        refine wg_loopS (γ := Nat × σ × Int × (List Bool) × (List Swalks_arrival) × (List Frag) × Frag × Value × Frag) true [39, 40, 41, 42, 8, 7, 43, 44, 45, 46, 47, 48, 49, 50, 51, 52, 53, 54, 55, 56, 57, 58, 59, 60, 61, 62, 63, 64, 65, 66, 5, 67, 38] (fun g => [(5, g.2.2.2.2.2.2.2.1), (38, (.int .i64 g.2.2.1))]) (fun g => [g.2.2.2.2.2.2.1, g.2.2.2.2.2.2.2.2, box b57 [(.int .i64 ((ix x28 0).f_state)), (.int .i64 ((ix x28 0).f_from)), (.int .i64 ((ix x28 0).f_input))] 102] ++ (g.2.2.2.2.2.1 ++ A)) (fun g R => walks_arrivals_1_L2 N σ p0_ x28 g.1 g.2.1 g.2.2.1 g.2.2.2.1 g.2.2.2.2.1 = some q40 ∧ I g.2.1 R g.2.2.2.2.2.1 ∧ ORep tBool R g.2.2.2.2.2.2.1 v5 g.2.2.2.1 ∧ capOf v5 = g.2.2.2.1.length ∧ ORep kSwalks_arrival R g.2.2.2.2.2.2.2.2 g.2.2.2.2.2.2.2.1 g.2.2.2.2.1 ∧ True) (fun g => g.1) (N, y63.2, 0, x27, (cut x28 1 (↑x28.length : Int)), OJ67, f33, v59, f37) ⟨rfl, rfl, trivial⟩ ⟨[], (pk 1 rfl (pk 1 rfl (pk 0 rfl (List.Perm.refl _))))⟩ ⟨hd1, hi68, (h34.mono le66), ht35, (h60.mono le66), trivial⟩ (fun _ => rfl) ?_
        clear hd1
        rintro ⟨F79, x80, x81, x82, x83, OJ86, f88, v91, f92⟩ j161 D162 R84 hD163 le85 ⟨hd1, hi87, h89, ht90, h93, _⟩
        obtain rfl := hD163 rfl
        rcases F79 with _ | F79
        · exact none_elim hd1
        replace hd1 : walks_arrivals_1_L2 N σ p0_ x28 (F79 + 1) x80 x81 x82 x83 = some q40 := hd1; rw [walks_arrivals_1_L2] at hd1
        refine wg_seq ?_
        refine wg_region ?_
        refine wo_v rfl (val_lss rfl rfl) ?_
        refine wo_nil ?_
        refine wg_seq ?_
        refine wg_cond rfl (fun e94 => ?_) (fun e94 => ?_)
        · replace hd1 := sel_t e94 hd1; clear e94
          refine wg_skip ?_
          replace hd1 := bd_some hd1; obtain ⟨o95, hd2, hd1⟩ := hd1
          refine wg_meet (γ := (σ × List Bool × List Swalks_arrival) × (List Frag) × Frag × Value × Frag) true [40, 41, 42, 8, 7, 43, 44, 45, 46, 47, 48, 49, 50, 51, 52, 53, 54, 55, 56, 57, 58, 59, 60, 61, 62, 63, 64, 65, 66, 5] (fun g => [(5, g.2.2.2.1)]) (fun g => [g.2.2.1, g.2.2.2.2, box b57 [(.int .i64 ((ix x28 0).f_state)), (.int .i64 ((ix x28 0).f_from)), (.int .i64 ((ix x28 0).f_input))] 102] ++ (g.2.1 ++ A)) (fun g R => o95 = g.1 ∧ I g.1.1 R g.2.1 ∧ ORep tBool R g.2.2.1 v5 g.1.2.1 ∧ capOf v5 = g.1.2.1.length ∧ ORep kSwalks_arrival R g.2.2.2.2 g.2.2.2.1 g.1.2.2 ∧ True) ?_ ?_
          ·
            refine wg_block ?_
            refine wg_seq ?_
            refine wg_region ?_
            refine wo_v rfl (val_move (v := (.int .i64 x81)) rfl) ?_
            have g106 := (gd_some hd2).1; replace hd2 := (gd_some hd2).2
            refine wo_indexR (i := x81.toNat) rfl sl50 rfl (sl_s (h78.mono le85)) (idx_nonneg rfl g106.1) (okI_lt g106) fun v107 h108 => ?_
            refine wo_loadR rfl ty49 rfl h108 fun v109 h110 => ?_
            obtain rfl := vrep_Edge.1 h110
            refine wo_alloc rfl za49 fun b111 => ?_
            refine wo_v rfl (val_assign (v := (.int .i64 x81)) rfl) ?_
            refine wo_store (i := 0) (vs := [(.int .i64 ((ix (ix p0_.rows ((ix x28 0).f_state)) x81).to)), (.int .i64 ((ix (ix p0_.rows ((ix x28 0).f_state)) x81).out))]) sz49 rfl rfl rfl rfl rfl rfl (one_cons rfl (one_cons rfl one_nil)) ?_
            refine wo_nil ?_
            refine wg_seq ?_
            have g113 := (gd_some hd2).1; replace hd2 := (gd_some hd2).2
            refine wg_guarded 11 [] [phX (.pointer (some ⟨b111, 0, none⟩)), phX (.int .i64 ((ix (ix p0_.rows ((ix x28 0).f_state)) x81).to)), phX (.bool (decide (((ix (ix p0_.rows ((ix x28 0).f_state)) x81).to) ≠ (-1)))), phX (.bool (decide (((ix (ix p0_.rows ((ix x28 0).f_state)) x81).to) ≠ (-1)))), phG (true && ((decide (((ix (ix p0_.rows ((ix x28 0).f_state)) x81).to) ≠ (-1))) == true)) (phX v5), phG (true && ((decide (((ix (ix p0_.rows ((ix x28 0).f_state)) x81).to) ≠ (-1))) == true)) (phX (.pointer (some ⟨b111, 0, none⟩))), phG (true && ((decide (((ix (ix p0_.rows ((ix x28 0).f_state)) x81).to) ≠ (-1))) == true)) (phX (.int .i64 ((ix (ix p0_.rows ((ix x28 0).f_state)) x81).to))), phG (true && ((decide (((ix (ix p0_.rows ((ix x28 0).f_state)) x81).to) ≠ (-1))) == true)) ((fun u _ => OPtr tBool v5 x82 u ((ix (ix p0_.rows ((ix x28 0).f_state)) x81).to).toNat)), phG (true && ((decide (((ix (ix p0_.rows ((ix x28 0).f_state)) x81).to) ≠ (-1))) == true)) (phX (.bool (ix x82 ((ix (ix p0_.rows ((ix x28 0).f_state)) x81).to)))), phG (true && ((decide (((ix (ix p0_.rows ((ix x28 0).f_state)) x81).to) ≠ (-1))) == true)) (phX (.bool (!(ix x82 ((ix (ix p0_.rows ((ix x28 0).f_state)) x81).to))))), phX (.bool ((decide (((ix (ix p0_.rows ((ix x28 0).f_state)) x81).to) ≠ (-1))) && (!(ix x82 ((ix (ix p0_.rows ((ix x28 0).f_state)) x81).to)))))] (by kernel_rfl) (by kernel_rfl) (monoOk_of ⟨mono_x, mono_x, mono_x, mono_x, (mono_g mono_x), (mono_g mono_x), (mono_g mono_x), (mono_g (fun _ _ _ _ h => h)), (mono_g mono_x), (mono_g mono_x), mono_x, trivial⟩) ⟨?_, ?_, ?_, ?_, ?_, ?_, ?_, ?_, ?_, ?_, ?_, trivial⟩ fun R114 le115 => ?_
            · intro l R0q hle ha hd
              have a8 : l 8 = (.pointer (some ⟨b111, 0, none⟩)) := ha 8 rfl
              exact gstep_plain rfl rfl rfl (ph_val (val_fieldB fd49_0 a8))
            · intro l R1q hle ha hd
              obtain ⟨d0, _⟩ := hd
              have f43 : l 43 = (.pointer (some ⟨b111, 0, none⟩)) := d0 rfl
              exact gstep_plain rfl rfl rfl (ph_val (val_loadB (i := 0) ag3 f43 rfl rfl))
            · intro l R2q hle ha hd
              obtain ⟨d0, _⟩ := hd
              have f44 : l 44 = (.int .i64 ((ix (ix p0_.rows ((ix x28 0).f_state)) x81).to)) := d0 rfl
              exact gstep_plain rfl rfl rfl (ph_val (val_neq f44 rfl))
            · intro l R3q hle ha hd
              obtain ⟨d0, _⟩ := hd
              have f45 : l 45 = (.bool (decide (((ix (ix p0_.rows ((ix x28 0).f_state)) x81).to) ≠ (-1)))) := d0 rfl
              exact gstep_plain rfl rfl rfl (ph_val (val_move f45))
            · intro l R4q hle ha hd
              obtain ⟨d0, _⟩ := hd
              have a4 : l 4 = v5 := ha 4 rfl
              exact gstep_guard (Gj := true) (Bj := decide (((ix (ix p0_.rows ((ix x28 0).f_state)) x81).to) ≠ (-1))) rfl rfl rfl (gtrue (d0 rfl)) rfl (fun hG hB => ph_val (val_move a4))
            · intro l R5q hle ha hd
              obtain ⟨d0, _⟩ := hd
              have a8 : l 8 = (.pointer (some ⟨b111, 0, none⟩)) := ha 8 rfl
              exact gstep_guard (Gj := true) (Bj := decide (((ix (ix p0_.rows ((ix x28 0).f_state)) x81).to) ≠ (-1))) rfl rfl rfl (gtrue (d0 rfl)) rfl (fun hG hB => ph_val (val_fieldB fd49_0 a8))
            · intro l R6q hle ha hd
              obtain ⟨d0, d1, _⟩ := hd
              have f48g : phG (true && ((decide (((ix (ix p0_.rows ((ix x28 0).f_state)) x81).to) ≠ (-1))) == true)) (phX (.pointer (some ⟨b111, 0, none⟩))) (l 48) R6q := d0 rfl
              exact gstep_guard (Gj := true) (Bj := decide (((ix (ix p0_.rows ((ix x28 0).f_state)) x81).to) ≠ (-1))) rfl rfl rfl (gtrue (d1 rfl)) rfl (fun hG hB => ph_val (val_loadB (i := 0) ag3 (show l 48 = (.pointer (some ⟨b111, 0, none⟩)) from f48g.1 (gandT rfl hB)) rfl rfl))
            · intro l R7q hle ha hd
              obtain ⟨d0, d1, d2, _⟩ := hd
              have f47g : phG (true && ((decide (((ix (ix p0_.rows ((ix x28 0).f_state)) x81).to) ≠ (-1))) == true)) (phX v5) (l 47) R7q := d0 rfl
              have f49g : phG (true && ((decide (((ix (ix p0_.rows ((ix x28 0).f_state)) x81).to) ≠ (-1))) == true)) (phX (.int .i64 ((ix (ix p0_.rows ((ix x28 0).f_state)) x81).to))) (l 49) R7q := d1 rfl
              exact gstep_guard (Gj := true) (Bj := decide (((ix (ix p0_.rows ((ix x28 0).f_state)) x81).to) ≠ (-1))) rfl rfl rfl (gtrue (d2 rfl)) rfl (fun hG hB => ph_indexO (i := ((ix (ix p0_.rows ((ix x28 0).f_state)) x81).to).toNat) sl30 (show l 47 = v5 from f47g.1 (gandT rfl hB)) (h89.mono hle) (idx_nonneg (show l 49 = (.int .i64 ((ix (ix p0_.rows ((ix x28 0).f_state)) x81).to)) from f49g.1 (gandT rfl hB)) (g113 (gandT hG hB)).1) (okI_lt (g113 (gandT hG hB))))
            · intro l R8q hle ha hd
              obtain ⟨d0, d1, _⟩ := hd
              have f50g : phG (true && ((decide (((ix (ix p0_.rows ((ix x28 0).f_state)) x81).to) ≠ (-1))) == true)) ((fun u _ => OPtr tBool v5 x82 u ((ix (ix p0_.rows ((ix x28 0).f_state)) x81).to).toNat)) (l 50) R8q := d0 rfl
              exact gstep_guard (Gj := true) (Bj := decide (((ix (ix p0_.rows ((ix x28 0).f_state)) x81).to) ≠ (-1))) rfl rfl rfl (gtrue (d1 rfl)) rfl (fun hG hB => ph_exact (ph_loadO (i := ((ix (ix p0_.rows ((ix x28 0).f_state)) x81).to).toNat) (j := 1) ty4 (h89.mono hle) rfl rfl (f50g.1 (gandT rfl hB)) (okI_lt (g113 (gandT hG hB)))) (fun _ _ h => vrep_bool.1 h))
            · intro l R9q hle ha hd
              obtain ⟨d0, d1, _⟩ := hd
              have f51g : phG (true && ((decide (((ix (ix p0_.rows ((ix x28 0).f_state)) x81).to) ≠ (-1))) == true)) (phX (.bool (ix x82 ((ix (ix p0_.rows ((ix x28 0).f_state)) x81).to)))) (l 51) R9q := d0 rfl
              exact gstep_guard (Gj := true) (Bj := decide (((ix (ix p0_.rows ((ix x28 0).f_state)) x81).to) ≠ (-1))) rfl rfl rfl (gtrue (d1 rfl)) rfl (fun hG hB => ph_val (val_not (show l 51 = (.bool (ix x82 ((ix (ix p0_.rows ((ix x28 0).f_state)) x81).to))) from f51g.1 (gandT rfl hB))))
            · intro l R10q hle ha hd
              obtain ⟨d0, d1, _⟩ := hd
              have f46 : l 46 = (.bool (decide (((ix (ix p0_.rows ((ix x28 0).f_state)) x81).to) ≠ (-1)))) := d0 rfl
              have f52g : phG (true && ((decide (((ix (ix p0_.rows ((ix x28 0).f_state)) x81).to) ≠ (-1))) == true)) (phX (.bool (!(ix x82 ((ix (ix p0_.rows ((ix x28 0).f_state)) x81).to))))) (l 52) R10q := d1 rfl
              exact gstep_plain rfl rfl rfl (ph_val (val_and f46 (fun hb => (show l 52 = (.bool (!(ix x82 ((ix (ix p0_.rows ((ix x28 0).f_state)) x81).to)))) from f52g.1 (gandT rfl hb))) rfl))
            intro v116 h117
            intro v118 h119
            intro v120 h121
            intro v122 h123
            intro v124 h125
            intro v126 h127
            intro v128 h129
            intro v130 h131
            intro v132 h133
            intro v134 h135
            intro v136 h137
            obtain rfl := Eq.symm h117
            obtain rfl := Eq.symm h119
            obtain rfl := Eq.symm h121
            obtain rfl := Eq.symm h123
            obtain rfl := Eq.symm h137
            refine wo_nil ?_
            refine wg_cond rfl (fun e138 => ?_) (fun e138 => ?_)
            · replace hd2 := sel_t e138 hd2; clear e138
              refine wg_seq ?_
              refine wg_region ?_
              refine wo_v rfl (val_move (v := v5) rfl) ?_
              refine wo_v rfl (val_fieldB fd49_0 rfl) ?_
              refine wo_v rfl (val_loadB (i := 0) ag3 rfl rfl rfl) ?_
              have g139 := (gd_some hd2).1; replace hd2 := (gd_some hd2).2
              refine wo_indexO (i := ((ix (ix p0_.rows ((ix x28 0).f_state)) x81).to).toNat) rfl sl30 rfl (h89.mono le115) (idx_nonneg rfl g139.1) (okI_lt g139) fun v140 h141 => ?_
              refine wo_storeO (i := ((ix (ix p0_.rows ((ix x28 0).f_state)) x81).to).toNat) (j := 1) ty4 (h89.mono le115) rfl rfl h141 (okI_lt g139) rfl (vrep_bool.2 rfl) fun f142 h143 => ?_
              refine wo_nil ?_
              refine wg_region ?_
              refine wo_v rfl (val_move (v := v91) rfl) ?_
              refine wo_v rfl (val_fieldB fd49_0 rfl) ?_
              refine wo_v rfl (val_loadB (i := 0) ag3 rfl rfl rfl) ?_
              refine wo_v rfl (val_fieldB fd102_0 rfl) ?_
              refine wo_v rfl (val_loadB (i := 3) ag3 rfl rfl rfl) ?_
              refine wo_v rfl (val_move (v := (.int .i64 x81)) rfl) ?_
              refine wo_v rfl (val_buildL (ps := [(0, (.int .i64 ((ix (ix p0_.rows ((ix x28 0).f_state)) x81).to))), (1, (.int .i64 ((ix x28 0).f_state))), (2, (.int .i64 x81))]) (v := (.agg #[(.int .i64 ((ix (ix p0_.rows ((ix x28 0).f_state)) x81).to)), (.int .i64 ((ix x28 0).f_state)), (.int .i64 x81)])) rfl (fun w => by kernel_rfl)) ?_
              refine wo_lit (T := kSwalks_arrival) (X := ([(⟨(ix (ix p0_.rows ((ix x28 0).f_state)) x81).to, (ix x28 0).f_state, x81⟩ : Swalks_arrival)] : List Swalks_arrival)) (ps := [(0, (.agg #[(.int .i64 ((ix (ix p0_.rows ((ix x28 0).f_state)) x81).to)), (.int .i64 ((ix x28 0).f_state)), (.int .i64 x81)]))]) (css := [[(.int .i64 ((ix (ix p0_.rows ((ix x28 0).f_state)) x81).to)), (.int .i64 ((ix x28 0).f_state)), (.int .i64 x81)]]) rfl Try.underlying117 zo102 rfl rfl (lit_reps ⟨⟨_, _, rfl, rfl, ⟨_, _, rfl, rfl, rfl⟩⟩, trivial⟩) rfl rfl (by decide) fun v144 f145 cap146 h147 => ?_
              refine wo_freeze (i := 0) rfl h147 fun R149 le150 h151 => ?_
              have h152 : VRep (tSl true kSwalks_arrival) R149 v144 ([(⟨(ix (ix p0_.rows ((ix x28 0).f_state)) x81).to, (ix x28 0).f_state, x81⟩ : Swalks_arrival)] : List Swalks_arrival) := (sl_t h151 cap146)
              have g153 := (gd_some hd2).1; replace hd2 := (gd_some hd2).2
              refine wo_append (i := 2) (X := x83) (Y := ([(⟨(ix (ix p0_.rows ((ix x28 0).f_state)) x81).to, (ix x28 0).f_state, x81⟩ : Swalks_arrival)] : List Swalks_arrival)) rfl Try.underlying117 zo102 rfl rfl rfl (h93.mono (le115.trans le150)) (sl_s (Sub.v (B := (tSl false kSwalks_arrival)) (sub_sl Sub.refl (fun _ => rfl)) h152)) g153.1 g153.2 fun v154 f155 h156 => ?_
              refine wo_v rfl (val_assign (v := v154) rfl) ?_
              refine wo_nil ?_
              exact ⟨(fun _ => rfl), (le115.trans le150), (by repeat (first | exact off_self | refine off_upd rfl ?_ | refine off_setl rfl ?_ | refine off_mask_sub rfl ?_)), ((x80, (up x82 ((ix (ix p0_.rows ((ix x28 0).f_state)) x81).to) true), (x83 ++ ([(⟨(ix (ix p0_.rows ((ix x28 0).f_state)) x81).to, (ix x28 0).f_state, x81⟩ : Swalks_arrival)] : List Swalks_arrival))), OJ86, f142, v154, f155), ⟨rfl, trivial⟩, ⟨[box b111 [(.int .i64 ((ix (ix p0_.rows ((ix x28 0).f_state)) x81).to)), (.int .i64 ((ix (ix p0_.rows ((ix x28 0).f_state)) x81).out))] 49], (List.Perm.refl _)⟩, (Option.some.inj hd2).symm, (hmI _ _ _ _ (le115.trans le150) hi87), (h143.mono le150), (ht90.trans List.length_set.symm), h156, trivial⟩
            · replace hd2 := sel_f e138 hd2; clear e138
              refine wg_skip ?_
              exact ⟨(fun _ => rfl), le115, (by repeat (first | exact off_self | refine off_upd rfl ?_ | refine off_setl rfl ?_ | refine off_mask_sub rfl ?_)), ((x80, x82, x83), OJ86, f88, v91, f92), ⟨rfl, trivial⟩, ⟨[box b111 [(.int .i64 ((ix (ix p0_.rows ((ix x28 0).f_state)) x81).to)), (.int .i64 ((ix (ix p0_.rows ((ix x28 0).f_state)) x81).out))] 49], (List.Perm.refl _)⟩, (Option.some.inj hd2).symm, (hmI _ _ _ _ le115 hi87), (h89.mono le115), ht90, (h93.mono le115), trivial⟩
          ·
            rintro ⟨o95, OJ98, f100, v103, f104⟩ j157 D158 R96 hD159 le97 ⟨rfl, hi99, h101, ht102, h105, _⟩
            obtain rfl := hD159 rfl
            refine wg_region ?_
            have g160 := (gd_some hd1).1; replace hd1 := (gd_some hd1).2
            refine wo_v rfl (val_add rfl rfl g160) ?_
            refine wo_v rfl (val_move (v := (.int .i64 (x81 + 1))) rfl) ?_
            refine wo_nil ?_
            exact ⟨(fun _ => rfl), le97, (by repeat (first | exact off_self | refine off_upd rfl ?_ | refine off_setl rfl ?_ | refine off_mask_sub rfl ?_)), (F79, o95.1, x81 + 1, o95.2.1, o95.2.2, OJ98, f100, v103, f104), Nat.lt_succ_self _, ⟨rfl, rfl, trivial⟩, ⟨[], List.Perm.refl _⟩, hd1, hi99, h101, ht102, h105, trivial⟩
        · replace hd1 := sel_f e94 hd1; clear e94
          refine wg_exit ?_
          exact ⟨(fun _ => rfl), (le66.trans le85), (by repeat (first | exact off_self | refine off_upd rfl ?_ | refine off_setl rfl ?_ | refine off_mask_sub rfl ?_)), ((x80, x82, x83), OJ86, f88, v91, f92), ⟨rfl, trivial⟩, ⟨[box b57 [(.int .i64 ((ix x28 0).f_state)), (.int .i64 ((ix x28 0).f_from)), (.int .i64 ((ix x28 0).f_input))] 102], (pk 2 rfl (pk 0 rfl (pk 0 rfl (List.Perm.refl _))))⟩, (Option.some.inj hd1).symm, hi87, h89, ht90, h93, trivial⟩
    · replace hd1 := sel_f e51 hd1; clear e51
      refine wg_exit ?_
      show bodyQ _ _ _ _ _ .ret _ [] _ _
      replace hd0 := on_rt hd1 hd0
      obtain rfl := Option.some.inj hd0
      refine body_endG (D := []) (J := [f33, f37]) (O' := OJ31) (rs := []) (vs := []) le30 (List.Perm.refl _) rfl trivial ?_
      exact hi32
  ·
    rintro ⟨o39, OJ43, f45, v48, f49⟩ j164 D165 R41 hD166 le42 ⟨rfl, hi44, h46, ht47, h50, _⟩
    obtain rfl := hD166 rfl
    replace hd0 := on_go hd0
    exact ⟨(fun _ => rfl), le42, (by repeat (first | exact off_self | refine off_upd rfl ?_ | refine off_setl rfl ?_ | refine off_mask_sub rfl ?_)), (F25, o39.1, o39.2.1, o39.2.2, OJ43, f45, v48, f49), Nat.lt_succ_self _, ⟨rfl, trivial⟩, ⟨[], List.Perm.refl _⟩, hd0, hi44, h46, ht47, h50, trivial⟩
theorem en72 : Enters Try.prog 72 := enters_of Try.func72 rfl (by kernel_rfl)
theorem ag30 : ∀ w, (isAgg 30).run Try.prog w = .ok false w := fun w => by kernel_rfl
theorem fd102_1 : FieldOk Try.prog 102 1 1 := by
  obtain ⟨i, hi, hs⟩ : ∃ i, Try.prog.info? 3 = some i ∧ i.size = 1 := info_size (by kernel_rfl)
  exact fieldOk_of Try.underlying102 rfl rfl hi (by rw [hs]; rfl)
theorem zo3 : ZeroOk Try.prog 3 (tInt .i64) (0 : Int) 8 := by
  obtain ⟨i, zv, hi, hz, hs, hb, hv⟩ := info_zero (P := Try.prog) (e := 3) (zv := (.int .i64 0)) (k := 1) (b := 8) (by kernel_rfl)
  exact ⟨i, zv, hi, hz, hs, hb, fun R => by subst hv; exact rfl⟩
theorem sl36 : SlOk Try.prog 36 3 (tInt .i64) := ⟨Try.underlying36, ty3⟩
theorem c_slices_Clip_int {N : Nat} {R : RH} {s : (List Int)} {v_s : Value} (h_s : VRep (tSl false (tInt .i64)) R v_s s) {r : (List Int)} (hd0 : slices_Clip_int N s = some r) : CallP Try.prog 41 #[v_s] R (fun v R' => VRep (tSl true (tInt .i64)) R' v r) := by
  refine callP_of_wg (args := [v_s]) Try.func41 rfl rfl fun A => ?_
  rw [slices_Clip_int] at hd0
  refine wg_seq ?_
  refine wg_region ?_
  refine wo_v rfl (val_assign (v := (.slice none 0 0)) rfl) ?_
  refine wo_nil ?_
  refine wg_seq ?_
  refine wg_region ?_
  refine wo_v rfl (val_move (v := v_s) rfl) ?_
  refine wo_v rfl (val_move (v := v_s) rfl) ?_
  refine wo_v rfl (val_lenR rfl Try.underlying36 rfl (sl_s h_s)) ?_
  refine wo_v rfl (val_move (v := v_s) rfl) ?_
  refine wo_v rfl (val_lenR rfl Try.underlying36 rfl (sl_s h_s)) ?_
  have g4 := (gd_some hd0).1; replace hd0 := (gd_some hd0).2
  refine wo_sliceR (v := v_s) (lo := (0 : Int).toNat) (hi := (↑s.length : Int).toNat) (mx := (↑s.length : Int).toNat) rfl sl36 rfl (sl_s h_s) (.inl ⟨rfl, rfl⟩) (.inr ⟨_, congrArg some (idx_nonneg rfl (okS_0 g4))⟩) (.inr ⟨_, congrArg some (idx_nonneg rfl (okS_0 g4))⟩) (okS_1 g4) (okS_2 g4) (Nat.le_refl _) (Nat.le_trans (okS_2 g4) (capR (sl_s h_s))) (X' := (cut s 0 (↑s.length : Int))) rfl fun v1 h2 cap3 => ?_
  have h5 : VRep (tSl true (tInt .i64)) R v1 (cut s 0 (↑s.length : Int)) := sl_t h2 (cap3.trans (cut_len g4).symm)
  refine wo_v rfl (val_assign (v := v1) rfl) ?_
  refine wo_nil ?_
  refine wg_ret ?_
  obtain rfl := Option.some.inj hd0
  refine body_end (D := []) (J := []) (rs := [.tmp 2]) (vs := [v1]) (RH.le.refl _) rfl rfl ⟨rfl, trivial⟩ ?_
  exact ⟨rfl, h5⟩
theorem ag29 : ∀ w, (isAgg 29).run Try.prog w = .ok false w := fun w => by kernel_rfl
theorem ty36 {b0 : Bool} : TyOk Try.prog 36 (tSl b0 (tInt .i64)) := by
  obtain ⟨i, hi, hs⟩ : ∃ i, Try.prog.info? 36 = some i ∧ i.size = 1 := info_size (by kernel_rfl)
  exact tyOk_of Try.underlying36 hi rfl hs
theorem sl29 {b0 : Bool} : SlOk Try.prog 29 36 (tSl b0 (tInt .i64)) := ⟨Try.underlying29, ty36⟩
theorem en59 : Enters Try.prog 59 := enters_of Try.func59 rfl (by kernel_rfl)
theorem fd102_2 : FieldOk Try.prog 102 2 2 := by
  obtain ⟨i, hi, hs⟩ : ∃ i, Try.prog.info? 3 = some i ∧ i.size = 1 := info_size (by kernel_rfl)
  exact fieldOk_of Try.underlying102 rfl rfl hi (by rw [hs]; rfl)
theorem c_slices_Clone_int_o {N : Nat} {R : RH} {s : (List Int)} {v_s : Value} (h_s : VRep (tSl false (tInt .i64)) R v_s s) {r : (List Int)} (hd0 : slices_Clone_int_o N s = some r) : CallG Try.prog 59 #[v_s] R [] (fun v R' O' => ∃ u0_0 g0_0, v = u0_0 ∧ O' = [g0_0] ∧ ORep (tInt .i64) R' g0_0 u0_0 r) := by
  refine callG_of_wg (args := [v_s]) Try.func59 rfl rfl fun A => ?_
  rw [slices_Clone_int_o] at hd0
  refine wg_seq ?_
  refine wg_region ?_
  refine wo_v rfl (val_assign (v := (.slice none 0 0)) rfl) ?_
  refine wo_nil ?_
  refine wg_seq ?_
  refine wg_seq ?_
  refine wg_region ?_
  refine wo_v rfl (val_move (v := v_s) rfl) ?_
  refine wo_v rfl (val_eqNil Try.underlying36 rfl rfl (isS_vrep (sl_s h_s))) ?_
  refine wo_nil ?_
  refine wg_cond rfl (fun e1 => ?_) (fun e1 => ?_)
  ·
    obtain rfl := nilS_nil (sl_s h_s) e1
    replace hd0 : some ([] : (List Int)) = some r := (gd_some hd0).2
    refine wg_seq ?_
    refine wg_region ?_
    refine wo_v rfl (val_assign (v := (.slice none 0 0)) rfl) ?_
    refine wo_nil ?_
    refine wg_emp ?_
    refine wg_ret ?_
    obtain rfl := Option.some.inj hd0
    refine body_endG (D := []) (J := []) (O' := [emp]) (rs := [.tmp 2]) (vs := [(.slice none 0 0)]) (RH.le.refl _) ((pk 0 rfl (List.Perm.refl _))) rfl ⟨rfl, trivial⟩ ?_
    exact ⟨(.slice none 0 0), emp, rfl, rfl, (orep_emp (T := (tInt .i64)))⟩
  ·
    refine wg_skip ?_
    refine wg_seq ?_
    refine wg_region ?_
    refine wo_lit (T := (tInt .i64)) (X := ([] : List Int)) (ps := []) (css := []) rfl Try.underlying36 zo3 rfl rfl (lit_reps trivial) rfl rfl (by decide) fun v3 f4 cap5 h6 => ?_
    refine wo_v rfl (val_move (v := v_s) rfl) ?_
    have g8 := (gd_some hd0).1; replace hd0 := (gd_some hd0).2
    refine wo_append (i := 0) (X := ([] : List Int)) (Y := s) rfl Try.underlying36 zo3 rfl rfl rfl h6 (sl_s h_s) g8.1 g8.2 fun v9 f10 h11 => ?_
    refine wo_v rfl (val_assign (v := v9) rfl) ?_
    refine wo_nil ?_
    refine wg_ret ?_
    obtain rfl := Option.some.inj hd0
    refine body_endG (D := []) (J := []) (O' := [f10]) (rs := [.tmp 2]) (vs := [v9]) (RH.le.refl _) ((pk 0 rfl (List.Perm.refl _))) rfl ⟨rfl, trivial⟩ ?_
    exact ⟨v9, f10, rfl, rfl, h11⟩
theorem en41 : Enters Try.prog 41 := enters_of Try.func41 rfl (by kernel_rfl)
theorem c_walks_paths {N : Nat} {R : RH} {m : Mach} {v_m : Value} (h_m : VRep (kMach false false) R v_m m) {from_ : Int} {r : (List (List Int)) × (List Bool)} (hd0 : walks_paths N m from_ = some r) : CallP Try.prog 38 #[v_m, (.int .i64 from_)] R (fun v R' => ∃ u0 u1, v = .tuple #[u0, u1] ∧ VRep (tSl true (tSl true (tInt .i64))) R' u0 r.1 ∧ VRep (tSl true tBool) R' u1 r.2) := by
  refine callP_of_wg (args := [v_m, (.int .i64 from_)]) Try.func38 rfl rfl fun A => ?_
  rw [walks_paths] at hd0
  refine wg_seq ?_
  refine wg_region ?_
  refine wo_boxR (T := (kMach false false)) rfl rfl h_m fun v1 R3 le4 h2 => ?_
  refine wo_v rfl (val_assign (v := (.slice none 0 0)) rfl) ?_
  refine wo_v rfl (val_assign (v := (.slice none 0 0)) rfl) ?_
  refine wo_nil ?_
  refine wg_seq ?_
  have g5 := (gd_some hd0).1; replace hd0 := (gd_some hd0).2
  have g7 := (gd_some hd0).1; replace hd0 := (gd_some hd0).2
  refine wg_free [3, 7, 8, 9, 10, 11] [(fun es => phP (tSl false (tSl false kEdge)) m.rows), (fun es => phR (tSl false (tSl false kEdge)) m.rows), (fun es => phX (.int .i64 (↑m.rows.length : Int))), (fun es => (fun v _ => v.oneCell' = true)), (fun es => phP (tSl false (tSl false kEdge)) m.rows), (fun es => phR (tSl false (tSl false kEdge)) m.rows), (fun es => phX (.int .i64 (↑m.rows.length : Int))), (fun es => (fun v _ => v.oneCell' = true)), (fun es => (fun v _ => v = .pointer (some ⟨blkOf v, 0, none⟩))), (fun es => (fun v _ => v = .pointer (some ⟨blkOf v, 0, none⟩))), (fun es => (fun _ _ => True)), (fun es => (fun _ _ => True))] (fun fl es R O => (fl = [false, false, false, false, false, false] ∧ O.Perm ([] ++ A) ∧ True) ∨ (fl = [true, false, false, false, false, false] ∧ ∃ (f_o6 : Frag), O.Perm ([f_o6] ++ A) ∧ ORep (tSl true (tInt .i64)) R f_o6 (es.getD 0 undef) (mk (↑m.rows.length : Int) ([] : List Int)) ∧ capOf (es.getD 0 undef) = (mk (↑m.rows.length : Int) ([] : List Int)).length ∧ True) ∨ (fl = [false, true, false, false, false, false] ∧ ∃ (f_o8 : Frag), O.Perm ([f_o8] ++ A) ∧ ORep tBool R f_o8 (es.getD 1 undef) (mk (↑m.rows.length : Int) false) ∧ capOf (es.getD 1 undef) = (mk (↑m.rows.length : Int) false).length ∧ True) ∨ (fl = [false, false, true, false, false, false] ∧ O.Perm ([box (blkOf (es.getD 2 undef)) [(.slice none 0 0)] 29] ++ A) ∧ True) ∨ (fl = [false, false, false, true, false, false] ∧ O.Perm ([box (blkOf (es.getD 3 undef)) [(.slice none 0 0)] 30] ++ A) ∧ True) ∨ (fl = [true, true, false, false, false, false] ∧ ∃ (f_o6 : Frag) (f_o8 : Frag), O.Perm ([f_o6, f_o8] ++ A) ∧ ORep (tSl true (tInt .i64)) R f_o6 (es.getD 0 undef) (mk (↑m.rows.length : Int) ([] : List Int)) ∧ capOf (es.getD 0 undef) = (mk (↑m.rows.length : Int) ([] : List Int)).length ∧ ORep tBool R f_o8 (es.getD 1 undef) (mk (↑m.rows.length : Int) false) ∧ capOf (es.getD 1 undef) = (mk (↑m.rows.length : Int) false).length ∧ True) ∨ (fl = [true, false, true, false, false, false] ∧ ∃ (f_o6 : Frag), O.Perm ([f_o6, box (blkOf (es.getD 2 undef)) [(.slice none 0 0)] 29] ++ A) ∧ ORep (tSl true (tInt .i64)) R f_o6 (es.getD 0 undef) (mk (↑m.rows.length : Int) ([] : List Int)) ∧ capOf (es.getD 0 undef) = (mk (↑m.rows.length : Int) ([] : List Int)).length ∧ True) ∨ (fl = [true, false, false, true, false, false] ∧ ∃ (f_o6 : Frag), O.Perm ([f_o6, box (blkOf (es.getD 3 undef)) [(.slice none 0 0)] 30] ++ A) ∧ ORep (tSl true (tInt .i64)) R f_o6 (es.getD 0 undef) (mk (↑m.rows.length : Int) ([] : List Int)) ∧ capOf (es.getD 0 undef) = (mk (↑m.rows.length : Int) ([] : List Int)).length ∧ True) ∨ (fl = [false, true, true, false, false, false] ∧ ∃ (f_o8 : Frag), O.Perm ([f_o8, box (blkOf (es.getD 2 undef)) [(.slice none 0 0)] 29] ++ A) ∧ ORep tBool R f_o8 (es.getD 1 undef) (mk (↑m.rows.length : Int) false) ∧ capOf (es.getD 1 undef) = (mk (↑m.rows.length : Int) false).length ∧ True) ∨ (fl = [false, true, false, true, false, false] ∧ ∃ (f_o8 : Frag), O.Perm ([f_o8, box (blkOf (es.getD 3 undef)) [(.slice none 0 0)] 30] ++ A) ∧ ORep tBool R f_o8 (es.getD 1 undef) (mk (↑m.rows.length : Int) false) ∧ capOf (es.getD 1 undef) = (mk (↑m.rows.length : Int) false).length ∧ True) ∨ (fl = [false, false, true, true, false, false] ∧ O.Perm ([box (blkOf (es.getD 2 undef)) [(.slice none 0 0)] 29, box (blkOf (es.getD 3 undef)) [(.slice none 0 0)] 30] ++ A) ∧ True) ∨ (fl = [true, true, true, false, false, false] ∧ ∃ (f_o6 : Frag) (f_o8 : Frag), O.Perm ([f_o6, f_o8, box (blkOf (es.getD 2 undef)) [(.slice none 0 0)] 29] ++ A) ∧ ORep (tSl true (tInt .i64)) R f_o6 (es.getD 0 undef) (mk (↑m.rows.length : Int) ([] : List Int)) ∧ capOf (es.getD 0 undef) = (mk (↑m.rows.length : Int) ([] : List Int)).length ∧ ORep tBool R f_o8 (es.getD 1 undef) (mk (↑m.rows.length : Int) false) ∧ capOf (es.getD 1 undef) = (mk (↑m.rows.length : Int) false).length ∧ True) ∨ (fl = [true, true, false, true, false, false] ∧ ∃ (f_o6 : Frag) (f_o8 : Frag), O.Perm ([f_o6, f_o8, box (blkOf (es.getD 3 undef)) [(.slice none 0 0)] 30] ++ A) ∧ ORep (tSl true (tInt .i64)) R f_o6 (es.getD 0 undef) (mk (↑m.rows.length : Int) ([] : List Int)) ∧ capOf (es.getD 0 undef) = (mk (↑m.rows.length : Int) ([] : List Int)).length ∧ ORep tBool R f_o8 (es.getD 1 undef) (mk (↑m.rows.length : Int) false) ∧ capOf (es.getD 1 undef) = (mk (↑m.rows.length : Int) false).length ∧ True) ∨ (fl = [true, false, true, true, false, false] ∧ ∃ (f_o6 : Frag), O.Perm ([f_o6, box (blkOf (es.getD 2 undef)) [(.slice none 0 0)] 29, box (blkOf (es.getD 3 undef)) [(.slice none 0 0)] 30] ++ A) ∧ ORep (tSl true (tInt .i64)) R f_o6 (es.getD 0 undef) (mk (↑m.rows.length : Int) ([] : List Int)) ∧ capOf (es.getD 0 undef) = (mk (↑m.rows.length : Int) ([] : List Int)).length ∧ True) ∨ (fl = [false, true, true, true, false, false] ∧ ∃ (f_o8 : Frag), O.Perm ([f_o8, box (blkOf (es.getD 2 undef)) [(.slice none 0 0)] 29, box (blkOf (es.getD 3 undef)) [(.slice none 0 0)] 30] ++ A) ∧ ORep tBool R f_o8 (es.getD 1 undef) (mk (↑m.rows.length : Int) false) ∧ capOf (es.getD 1 undef) = (mk (↑m.rows.length : Int) false).length ∧ True) ∨ (fl = [true, true, true, true, false, false] ∧ ∃ (f_o6 : Frag) (f_o8 : Frag), O.Perm ([f_o6, f_o8, box (blkOf (es.getD 2 undef)) [(.slice none 0 0)] 29, box (blkOf (es.getD 3 undef)) [(.slice none 0 0)] 30] ++ A) ∧ ORep (tSl true (tInt .i64)) R f_o6 (es.getD 0 undef) (mk (↑m.rows.length : Int) ([] : List Int)) ∧ capOf (es.getD 0 undef) = (mk (↑m.rows.length : Int) ([] : List Int)).length ∧ ORep tBool R f_o8 (es.getD 1 undef) (mk (↑m.rows.length : Int) false) ∧ capOf (es.getD 1 undef) = (mk (↑m.rows.length : Int) false).length ∧ True) ∨ (fl = [true, false, true, true, true, false] ∧ ∃ (f_o6 : Frag), O.Perm ([f_o6, box (blkOf (es.getD 2 undef)) [(es.getD 0 undef)] 29, box (blkOf (es.getD 3 undef)) [(.slice none 0 0)] 30] ++ A) ∧ ORep (tSl true (tInt .i64)) R f_o6 (es.getD 0 undef) (mk (↑m.rows.length : Int) ([] : List Int)) ∧ capOf (es.getD 0 undef) = (mk (↑m.rows.length : Int) ([] : List Int)).length ∧ True) ∨ (fl = [true, true, true, true, true, false] ∧ ∃ (f_o6 : Frag) (f_o8 : Frag), O.Perm ([f_o6, f_o8, box (blkOf (es.getD 2 undef)) [(es.getD 0 undef)] 29, box (blkOf (es.getD 3 undef)) [(.slice none 0 0)] 30] ++ A) ∧ ORep (tSl true (tInt .i64)) R f_o6 (es.getD 0 undef) (mk (↑m.rows.length : Int) ([] : List Int)) ∧ capOf (es.getD 0 undef) = (mk (↑m.rows.length : Int) ([] : List Int)).length ∧ ORep tBool R f_o8 (es.getD 1 undef) (mk (↑m.rows.length : Int) false) ∧ capOf (es.getD 1 undef) = (mk (↑m.rows.length : Int) false).length ∧ True) ∨ (fl = [true, true, true, true, true, true] ∧ ∃ (f_o6 : Frag) (f_o8 : Frag), O.Perm ([f_o6, f_o8, box (blkOf (es.getD 2 undef)) [(es.getD 0 undef)] 29, box (blkOf (es.getD 3 undef)) [(es.getD 1 undef)] 30] ++ A) ∧ ORep (tSl true (tInt .i64)) R f_o6 (es.getD 0 undef) (mk (↑m.rows.length : Int) ([] : List Int)) ∧ capOf (es.getD 0 undef) = (mk (↑m.rows.length : Int) ([] : List Int)).length ∧ ORep tBool R f_o8 (es.getD 1 undef) (mk (↑m.rows.length : Int) false) ∧ capOf (es.getD 1 undef) = (mk (↑m.rows.length : Int) false).length ∧ True)) mixed (by kernel_rfl) ⟨(monoE_of mono_p), (monoE_of mono_r), (monoE_of mono_x), (fun _ _ _ _ _ h => h), (monoE_of mono_p), (monoE_of mono_r), (monoE_of mono_x), (fun _ _ _ _ _ h => h), (fun _ _ _ _ _ h => h), (fun _ _ _ _ _ h => h), (fun _ _ _ _ _ h => h), (fun _ _ _ _ _ h => h), trivial⟩ (by
      rintro fl es R R' O hle (⟨rfl, hp, _⟩ | ⟨rfl, f_o6, hp, h_o6, c_o6, _⟩ | ⟨rfl, f_o8, hp, h_o8, c_o8, _⟩ | ⟨rfl, hp, _⟩ | ⟨rfl, hp, _⟩ | ⟨rfl, f_o6, f_o8, hp, h_o6, c_o6, h_o8, c_o8, _⟩ | ⟨rfl, f_o6, hp, h_o6, c_o6, _⟩ | ⟨rfl, f_o6, hp, h_o6, c_o6, _⟩ | ⟨rfl, f_o8, hp, h_o8, c_o8, _⟩ | ⟨rfl, f_o8, hp, h_o8, c_o8, _⟩ | ⟨rfl, hp, _⟩ | ⟨rfl, f_o6, f_o8, hp, h_o6, c_o6, h_o8, c_o8, _⟩ | ⟨rfl, f_o6, f_o8, hp, h_o6, c_o6, h_o8, c_o8, _⟩ | ⟨rfl, f_o6, hp, h_o6, c_o6, _⟩ | ⟨rfl, f_o8, hp, h_o8, c_o8, _⟩ | ⟨rfl, f_o6, f_o8, hp, h_o6, c_o6, h_o8, c_o8, _⟩ | ⟨rfl, f_o6, hp, h_o6, c_o6, _⟩ | ⟨rfl, f_o6, f_o8, hp, h_o6, c_o6, h_o8, c_o8, _⟩ | ⟨rfl, f_o6, f_o8, hp, h_o6, c_o6, h_o8, c_o8, _⟩)
      · exact (.inl ⟨rfl, hp, trivial⟩)
      · exact (.inr (.inl ⟨rfl, f_o6, hp, (h_o6.mono hle), c_o6, trivial⟩))
      · exact (.inr (.inr (.inl ⟨rfl, f_o8, hp, (h_o8.mono hle), c_o8, trivial⟩)))
      · exact (.inr (.inr (.inr (.inl ⟨rfl, hp, trivial⟩))))
      · exact (.inr (.inr (.inr (.inr (.inl ⟨rfl, hp, trivial⟩)))))
      · exact (.inr (.inr (.inr (.inr (.inr (.inl ⟨rfl, f_o6, f_o8, hp, (h_o6.mono hle), c_o6, (h_o8.mono hle), c_o8, trivial⟩))))))
      · exact (.inr (.inr (.inr (.inr (.inr (.inr (.inl ⟨rfl, f_o6, hp, (h_o6.mono hle), c_o6, trivial⟩)))))))
      · exact (.inr (.inr (.inr (.inr (.inr (.inr (.inr (.inl ⟨rfl, f_o6, hp, (h_o6.mono hle), c_o6, trivial⟩))))))))
      · exact (.inr (.inr (.inr (.inr (.inr (.inr (.inr (.inr (.inl ⟨rfl, f_o8, hp, (h_o8.mono hle), c_o8, trivial⟩)))))))))
      · exact (.inr (.inr (.inr (.inr (.inr (.inr (.inr (.inr (.inr (.inl ⟨rfl, f_o8, hp, (h_o8.mono hle), c_o8, trivial⟩))))))))))
      · exact (.inr (.inr (.inr (.inr (.inr (.inr (.inr (.inr (.inr (.inr (.inl ⟨rfl, hp, trivial⟩)))))))))))
      · exact (.inr (.inr (.inr (.inr (.inr (.inr (.inr (.inr (.inr (.inr (.inr (.inl ⟨rfl, f_o6, f_o8, hp, (h_o6.mono hle), c_o6, (h_o8.mono hle), c_o8, trivial⟩))))))))))))
      · exact (.inr (.inr (.inr (.inr (.inr (.inr (.inr (.inr (.inr (.inr (.inr (.inr (.inl ⟨rfl, f_o6, f_o8, hp, (h_o6.mono hle), c_o6, (h_o8.mono hle), c_o8, trivial⟩)))))))))))))
      · exact (.inr (.inr (.inr (.inr (.inr (.inr (.inr (.inr (.inr (.inr (.inr (.inr (.inr (.inl ⟨rfl, f_o6, hp, (h_o6.mono hle), c_o6, trivial⟩))))))))))))))
      · exact (.inr (.inr (.inr (.inr (.inr (.inr (.inr (.inr (.inr (.inr (.inr (.inr (.inr (.inr (.inl ⟨rfl, f_o8, hp, (h_o8.mono hle), c_o8, trivial⟩)))))))))))))))
      · exact (.inr (.inr (.inr (.inr (.inr (.inr (.inr (.inr (.inr (.inr (.inr (.inr (.inr (.inr (.inr (.inl ⟨rfl, f_o6, f_o8, hp, (h_o6.mono hle), c_o6, (h_o8.mono hle), c_o8, trivial⟩))))))))))))))))
      · exact (.inr (.inr (.inr (.inr (.inr (.inr (.inr (.inr (.inr (.inr (.inr (.inr (.inr (.inr (.inr (.inr (.inl ⟨rfl, f_o6, hp, (h_o6.mono hle), c_o6, trivial⟩)))))))))))))))))
      · exact (.inr (.inr (.inr (.inr (.inr (.inr (.inr (.inr (.inr (.inr (.inr (.inr (.inr (.inr (.inr (.inr (.inr (.inl ⟨rfl, f_o6, f_o8, hp, (h_o6.mono hle), c_o6, (h_o8.mono hle), c_o8, trivial⟩))))))))))))))))))
      · exact (.inr (.inr (.inr (.inr (.inr (.inr (.inr (.inr (.inr (.inr (.inr (.inr (.inr (.inr (.inr (.inr (.inr (.inr ⟨rfl, f_o6, f_o8, hp, (h_o6.mono hle), c_o6, (h_o8.mono hle), c_o8, trivial⟩))))))))))))))))))) ⟨(fun _ _ _ _ _ h => h), (fun _ _ _ _ _ h => h), (fun _ _ _ _ _ h => h), (fun _ _ _ _ _ h => h), (fun _ _ _ _ _ h => h), (fun _ _ _ _ _ h => h), (fun _ _ _ _ _ h => h), (fun _ _ _ _ _ h => h), (fun _ _ _ _ _ h => h), (fun _ _ _ _ _ h => h), (fun _ _ _ _ _ h => h), (fun _ _ _ _ _ h => h), trivial⟩ (fun es => .inl ⟨rfl, (List.Perm.refl _), trivial⟩) ⟨?_, ?_, ?_, ?_, ?_, ?_, ?_, ?_, ?_, ?_, ?_, ?_, trivial⟩ fun R11 le12 => ?_
  · intro l R0q fl O hle ha hd hk hW
    have a2 : l 2 = v1 := ha 2 rfl
    exact ph_fieldR fd27_2 pt_Mach2 a2 (h2.mono hle)
  · intro l R1q fl O hle ha hd hk hW
    obtain ⟨d0, _⟩ := hd
    have f9 : phP (tSl false (tSl false kEdge)) m.rows (l 9) R1q := d0 rfl
    exact ph_loadR ty25 rfl f9
  · intro l R2q fl O hle ha hd hk hW
    obtain ⟨d0, _⟩ := hd
    have f10 : phR (tSl false (tSl false kEdge)) m.rows (l 10) R2q := d0 rfl
    exact ph_val (val_lenR rfl Try.underlying25 rfl (sl_s f10))
  · intro l R3q fl O hle ha hd hk hf hW
    obtain ⟨d0, d1, _⟩ := hd
    have f11 : l 11 = (.int .i64 (↑m.rows.length : Int)) := d0 rfl
    rcases hW with ⟨rfl, hp, _⟩ | ⟨rfl, f_o6, hp, h_o6, c_o6, _⟩ | ⟨rfl, f_o8, hp, h_o8, c_o8, _⟩ | ⟨rfl, hp, _⟩ | ⟨rfl, hp, _⟩ | ⟨rfl, f_o6, f_o8, hp, h_o6, c_o6, h_o8, c_o8, _⟩ | ⟨rfl, f_o6, hp, h_o6, c_o6, _⟩ | ⟨rfl, f_o6, hp, h_o6, c_o6, _⟩ | ⟨rfl, f_o8, hp, h_o8, c_o8, _⟩ | ⟨rfl, f_o8, hp, h_o8, c_o8, _⟩ | ⟨rfl, hp, _⟩ | ⟨rfl, f_o6, f_o8, hp, h_o6, c_o6, h_o8, c_o8, _⟩ | ⟨rfl, f_o6, f_o8, hp, h_o6, c_o6, h_o8, c_o8, _⟩ | ⟨rfl, f_o6, hp, h_o6, c_o6, _⟩ | ⟨rfl, f_o8, hp, h_o8, c_o8, _⟩ | ⟨rfl, f_o6, f_o8, hp, h_o6, c_o6, h_o8, c_o8, _⟩ | ⟨rfl, f_o6, hp, h_o6, c_o6, _⟩ | ⟨rfl, f_o6, f_o8, hp, h_o6, c_o6, h_o8, c_o8, _⟩ | ⟨rfl, f_o6, f_o8, hp, h_o6, c_o6, h_o8, c_o8, _⟩
    · refine eff_perm hp ?_
      refine Eff.mono (eff_make (T := (tSl true (tInt .i64))) (n := (↑m.rows.length : Int).toNat) (c := (↑m.rows.length : Int).toNat) Try.underlying29 zo36 (idx_nonneg f11 g5.1) (idx_nonneg f11 g5.1) (Nat.le_refl _) (okM_b g5) (okM_n g5)) ?_
      rintro v R' O' hle' ⟨rfl, hc, f, rfl, ho⟩
      exact ⟨(orep_one ho), .inr (.inl ⟨rfl, f, (List.Perm.refl _), ho, (hc.trans List.length_replicate.symm), trivial⟩)⟩
    · cases hf
    · refine eff_perm hp ?_
      refine Eff.mono (eff_make (T := (tSl true (tInt .i64))) (n := (↑m.rows.length : Int).toNat) (c := (↑m.rows.length : Int).toNat) Try.underlying29 zo36 (idx_nonneg f11 g5.1) (idx_nonneg f11 g5.1) (Nat.le_refl _) (okM_b g5) (okM_n g5)) ?_
      rintro v R' O' hle' ⟨rfl, hc, f, rfl, ho⟩
      exact ⟨(orep_one ho), .inr (.inr (.inr (.inr (.inr (.inl ⟨rfl, f, f_o8, (List.Perm.refl _), ho, (hc.trans List.length_replicate.symm), h_o8, c_o8, trivial⟩)))))⟩
    · refine eff_perm hp ?_
      refine Eff.mono (eff_make (T := (tSl true (tInt .i64))) (n := (↑m.rows.length : Int).toNat) (c := (↑m.rows.length : Int).toNat) Try.underlying29 zo36 (idx_nonneg f11 g5.1) (idx_nonneg f11 g5.1) (Nat.le_refl _) (okM_b g5) (okM_n g5)) ?_
      rintro v R' O' hle' ⟨rfl, hc, f, rfl, ho⟩
      exact ⟨(orep_one ho), .inr (.inr (.inr (.inr (.inr (.inr (.inl ⟨rfl, f, (List.Perm.refl _), ho, (hc.trans List.length_replicate.symm), trivial⟩))))))⟩
    · refine eff_perm hp ?_
      refine Eff.mono (eff_make (T := (tSl true (tInt .i64))) (n := (↑m.rows.length : Int).toNat) (c := (↑m.rows.length : Int).toNat) Try.underlying29 zo36 (idx_nonneg f11 g5.1) (idx_nonneg f11 g5.1) (Nat.le_refl _) (okM_b g5) (okM_n g5)) ?_
      rintro v R' O' hle' ⟨rfl, hc, f, rfl, ho⟩
      exact ⟨(orep_one ho), .inr (.inr (.inr (.inr (.inr (.inr (.inr (.inl ⟨rfl, f, (List.Perm.refl _), ho, (hc.trans List.length_replicate.symm), trivial⟩)))))))⟩
    · cases hf
    · cases hf
    · cases hf
    · refine eff_perm hp ?_
      refine Eff.mono (eff_make (T := (tSl true (tInt .i64))) (n := (↑m.rows.length : Int).toNat) (c := (↑m.rows.length : Int).toNat) Try.underlying29 zo36 (idx_nonneg f11 g5.1) (idx_nonneg f11 g5.1) (Nat.le_refl _) (okM_b g5) (okM_n g5)) ?_
      rintro v R' O' hle' ⟨rfl, hc, f, rfl, ho⟩
      exact ⟨(orep_one ho), .inr (.inr (.inr (.inr (.inr (.inr (.inr (.inr (.inr (.inr (.inr (.inl ⟨rfl, f, f_o8, (List.Perm.refl _), ho, (hc.trans List.length_replicate.symm), h_o8, c_o8, trivial⟩)))))))))))⟩
    · refine eff_perm hp ?_
      refine Eff.mono (eff_make (T := (tSl true (tInt .i64))) (n := (↑m.rows.length : Int).toNat) (c := (↑m.rows.length : Int).toNat) Try.underlying29 zo36 (idx_nonneg f11 g5.1) (idx_nonneg f11 g5.1) (Nat.le_refl _) (okM_b g5) (okM_n g5)) ?_
      rintro v R' O' hle' ⟨rfl, hc, f, rfl, ho⟩
      exact ⟨(orep_one ho), .inr (.inr (.inr (.inr (.inr (.inr (.inr (.inr (.inr (.inr (.inr (.inr (.inl ⟨rfl, f, f_o8, (List.Perm.refl _), ho, (hc.trans List.length_replicate.symm), h_o8, c_o8, trivial⟩))))))))))))⟩
    · refine eff_perm hp ?_
      refine Eff.mono (eff_make (T := (tSl true (tInt .i64))) (n := (↑m.rows.length : Int).toNat) (c := (↑m.rows.length : Int).toNat) Try.underlying29 zo36 (idx_nonneg f11 g5.1) (idx_nonneg f11 g5.1) (Nat.le_refl _) (okM_b g5) (okM_n g5)) ?_
      rintro v R' O' hle' ⟨rfl, hc, f, rfl, ho⟩
      exact ⟨(orep_one ho), .inr (.inr (.inr (.inr (.inr (.inr (.inr (.inr (.inr (.inr (.inr (.inr (.inr (.inl ⟨rfl, f, (List.Perm.refl _), ho, (hc.trans List.length_replicate.symm), trivial⟩)))))))))))))⟩
    · cases hf
    · cases hf
    · cases hf
    · refine eff_perm hp ?_
      refine Eff.mono (eff_make (T := (tSl true (tInt .i64))) (n := (↑m.rows.length : Int).toNat) (c := (↑m.rows.length : Int).toNat) Try.underlying29 zo36 (idx_nonneg f11 g5.1) (idx_nonneg f11 g5.1) (Nat.le_refl _) (okM_b g5) (okM_n g5)) ?_
      rintro v R' O' hle' ⟨rfl, hc, f, rfl, ho⟩
      exact ⟨(orep_one ho), .inr (.inr (.inr (.inr (.inr (.inr (.inr (.inr (.inr (.inr (.inr (.inr (.inr (.inr (.inr (.inl ⟨rfl, f, f_o8, (List.Perm.refl _), ho, (hc.trans List.length_replicate.symm), h_o8, c_o8, trivial⟩)))))))))))))))⟩
    · cases hf
    · cases hf
    · cases hf
    · cases hf
  · intro l R4q fl O hle ha hd hk hW
    have a2 : l 2 = v1 := ha 2 rfl
    exact ph_fieldR fd27_2 pt_Mach2 a2 (h2.mono hle)
  · intro l R5q fl O hle ha hd hk hW
    obtain ⟨d0, _⟩ := hd
    have f13 : phP (tSl false (tSl false kEdge)) m.rows (l 13) R5q := d0 rfl
    exact ph_loadR ty25 rfl f13
  · intro l R6q fl O hle ha hd hk hW
    obtain ⟨d0, _⟩ := hd
    have f14 : phR (tSl false (tSl false kEdge)) m.rows (l 14) R6q := d0 rfl
    exact ph_val (val_lenR rfl Try.underlying25 rfl (sl_s f14))
  · intro l R7q fl O hle ha hd hk hf hW
    obtain ⟨d0, d1, _⟩ := hd
    have f15 : l 15 = (.int .i64 (↑m.rows.length : Int)) := d0 rfl
    rcases hW with ⟨rfl, hp, _⟩ | ⟨rfl, f_o6, hp, h_o6, c_o6, _⟩ | ⟨rfl, f_o8, hp, h_o8, c_o8, _⟩ | ⟨rfl, hp, _⟩ | ⟨rfl, hp, _⟩ | ⟨rfl, f_o6, f_o8, hp, h_o6, c_o6, h_o8, c_o8, _⟩ | ⟨rfl, f_o6, hp, h_o6, c_o6, _⟩ | ⟨rfl, f_o6, hp, h_o6, c_o6, _⟩ | ⟨rfl, f_o8, hp, h_o8, c_o8, _⟩ | ⟨rfl, f_o8, hp, h_o8, c_o8, _⟩ | ⟨rfl, hp, _⟩ | ⟨rfl, f_o6, f_o8, hp, h_o6, c_o6, h_o8, c_o8, _⟩ | ⟨rfl, f_o6, f_o8, hp, h_o6, c_o6, h_o8, c_o8, _⟩ | ⟨rfl, f_o6, hp, h_o6, c_o6, _⟩ | ⟨rfl, f_o8, hp, h_o8, c_o8, _⟩ | ⟨rfl, f_o6, f_o8, hp, h_o6, c_o6, h_o8, c_o8, _⟩ | ⟨rfl, f_o6, hp, h_o6, c_o6, _⟩ | ⟨rfl, f_o6, f_o8, hp, h_o6, c_o6, h_o8, c_o8, _⟩ | ⟨rfl, f_o6, f_o8, hp, h_o6, c_o6, h_o8, c_o8, _⟩
    · refine eff_perm hp ?_
      refine Eff.mono (eff_make (T := tBool) (n := (↑m.rows.length : Int).toNat) (c := (↑m.rows.length : Int).toNat) Try.underlying30 zo4 (idx_nonneg f15 g7.1) (idx_nonneg f15 g7.1) (Nat.le_refl _) (okM_b g7) (okM_n g7)) ?_
      rintro v R' O' hle' ⟨rfl, hc, f, rfl, ho⟩
      exact ⟨(orep_one ho), .inr (.inr (.inl ⟨rfl, f, (List.Perm.refl _), ho, (hc.trans List.length_replicate.symm), trivial⟩))⟩
    · refine eff_perm hp ?_
      refine Eff.mono (eff_make (T := tBool) (n := (↑m.rows.length : Int).toNat) (c := (↑m.rows.length : Int).toNat) Try.underlying30 zo4 (idx_nonneg f15 g7.1) (idx_nonneg f15 g7.1) (Nat.le_refl _) (okM_b g7) (okM_n g7)) ?_
      rintro v R' O' hle' ⟨rfl, hc, f, rfl, ho⟩
      exact ⟨(orep_one ho), .inr (.inr (.inr (.inr (.inr (.inl ⟨rfl, f_o6, f, (pk 1 rfl (pk 0 rfl (List.Perm.refl _))), h_o6, c_o6, ho, (hc.trans List.length_replicate.symm), trivial⟩)))))⟩
    · cases hf
    · refine eff_perm hp ?_
      refine Eff.mono (eff_make (T := tBool) (n := (↑m.rows.length : Int).toNat) (c := (↑m.rows.length : Int).toNat) Try.underlying30 zo4 (idx_nonneg f15 g7.1) (idx_nonneg f15 g7.1) (Nat.le_refl _) (okM_b g7) (okM_n g7)) ?_
      rintro v R' O' hle' ⟨rfl, hc, f, rfl, ho⟩
      exact ⟨(orep_one ho), .inr (.inr (.inr (.inr (.inr (.inr (.inr (.inr (.inl ⟨rfl, f, (List.Perm.refl _), ho, (hc.trans List.length_replicate.symm), trivial⟩))))))))⟩
    · refine eff_perm hp ?_
      refine Eff.mono (eff_make (T := tBool) (n := (↑m.rows.length : Int).toNat) (c := (↑m.rows.length : Int).toNat) Try.underlying30 zo4 (idx_nonneg f15 g7.1) (idx_nonneg f15 g7.1) (Nat.le_refl _) (okM_b g7) (okM_n g7)) ?_
      rintro v R' O' hle' ⟨rfl, hc, f, rfl, ho⟩
      exact ⟨(orep_one ho), .inr (.inr (.inr (.inr (.inr (.inr (.inr (.inr (.inr (.inl ⟨rfl, f, (List.Perm.refl _), ho, (hc.trans List.length_replicate.symm), trivial⟩)))))))))⟩
    · cases hf
    · refine eff_perm hp ?_
      refine Eff.mono (eff_make (T := tBool) (n := (↑m.rows.length : Int).toNat) (c := (↑m.rows.length : Int).toNat) Try.underlying30 zo4 (idx_nonneg f15 g7.1) (idx_nonneg f15 g7.1) (Nat.le_refl _) (okM_b g7) (okM_n g7)) ?_
      rintro v R' O' hle' ⟨rfl, hc, f, rfl, ho⟩
      exact ⟨(orep_one ho), .inr (.inr (.inr (.inr (.inr (.inr (.inr (.inr (.inr (.inr (.inr (.inl ⟨rfl, f_o6, f, (pk 1 rfl (pk 0 rfl (pk 0 rfl (List.Perm.refl _)))), h_o6, c_o6, ho, (hc.trans List.length_replicate.symm), trivial⟩)))))))))))⟩
    · refine eff_perm hp ?_
      refine Eff.mono (eff_make (T := tBool) (n := (↑m.rows.length : Int).toNat) (c := (↑m.rows.length : Int).toNat) Try.underlying30 zo4 (idx_nonneg f15 g7.1) (idx_nonneg f15 g7.1) (Nat.le_refl _) (okM_b g7) (okM_n g7)) ?_
      rintro v R' O' hle' ⟨rfl, hc, f, rfl, ho⟩
      exact ⟨(orep_one ho), .inr (.inr (.inr (.inr (.inr (.inr (.inr (.inr (.inr (.inr (.inr (.inr (.inl ⟨rfl, f_o6, f, (pk 1 rfl (pk 0 rfl (pk 0 rfl (List.Perm.refl _)))), h_o6, c_o6, ho, (hc.trans List.length_replicate.symm), trivial⟩))))))))))))⟩
    · cases hf
    · cases hf
    · refine eff_perm hp ?_
      refine Eff.mono (eff_make (T := tBool) (n := (↑m.rows.length : Int).toNat) (c := (↑m.rows.length : Int).toNat) Try.underlying30 zo4 (idx_nonneg f15 g7.1) (idx_nonneg f15 g7.1) (Nat.le_refl _) (okM_b g7) (okM_n g7)) ?_
      rintro v R' O' hle' ⟨rfl, hc, f, rfl, ho⟩
      exact ⟨(orep_one ho), .inr (.inr (.inr (.inr (.inr (.inr (.inr (.inr (.inr (.inr (.inr (.inr (.inr (.inr (.inl ⟨rfl, f, (List.Perm.refl _), ho, (hc.trans List.length_replicate.symm), trivial⟩))))))))))))))⟩
    · cases hf
    · cases hf
    · refine eff_perm hp ?_
      refine Eff.mono (eff_make (T := tBool) (n := (↑m.rows.length : Int).toNat) (c := (↑m.rows.length : Int).toNat) Try.underlying30 zo4 (idx_nonneg f15 g7.1) (idx_nonneg f15 g7.1) (Nat.le_refl _) (okM_b g7) (okM_n g7)) ?_
      rintro v R' O' hle' ⟨rfl, hc, f, rfl, ho⟩
      exact ⟨(orep_one ho), .inr (.inr (.inr (.inr (.inr (.inr (.inr (.inr (.inr (.inr (.inr (.inr (.inr (.inr (.inr (.inl ⟨rfl, f_o6, f, (pk 1 rfl (pk 0 rfl (pk 0 rfl (pk 0 rfl (List.Perm.refl _))))), h_o6, c_o6, ho, (hc.trans List.length_replicate.symm), trivial⟩)))))))))))))))⟩
    · cases hf
    · cases hf
    · refine eff_perm hp ?_
      refine Eff.mono (eff_make (T := tBool) (n := (↑m.rows.length : Int).toNat) (c := (↑m.rows.length : Int).toNat) Try.underlying30 zo4 (idx_nonneg f15 g7.1) (idx_nonneg f15 g7.1) (Nat.le_refl _) (okM_b g7) (okM_n g7)) ?_
      rintro v R' O' hle' ⟨rfl, hc, f, rfl, ho⟩
      exact ⟨(orep_one ho), .inr (.inr (.inr (.inr (.inr (.inr (.inr (.inr (.inr (.inr (.inr (.inr (.inr (.inr (.inr (.inr (.inr (.inl ⟨rfl, f_o6, f, (pk 1 rfl (pk 0 rfl (pk 0 rfl (pk 0 rfl (List.Perm.refl _))))), h_o6, c_o6, ho, (hc.trans List.length_replicate.symm), trivial⟩)))))))))))))))))⟩
    · cases hf
    · cases hf
  · intro l R8q fl O hle ha hd hk hf hW
    rcases hW with ⟨rfl, hp, _⟩ | ⟨rfl, f_o6, hp, h_o6, c_o6, _⟩ | ⟨rfl, f_o8, hp, h_o8, c_o8, _⟩ | ⟨rfl, hp, _⟩ | ⟨rfl, hp, _⟩ | ⟨rfl, f_o6, f_o8, hp, h_o6, c_o6, h_o8, c_o8, _⟩ | ⟨rfl, f_o6, hp, h_o6, c_o6, _⟩ | ⟨rfl, f_o6, hp, h_o6, c_o6, _⟩ | ⟨rfl, f_o8, hp, h_o8, c_o8, _⟩ | ⟨rfl, f_o8, hp, h_o8, c_o8, _⟩ | ⟨rfl, hp, _⟩ | ⟨rfl, f_o6, f_o8, hp, h_o6, c_o6, h_o8, c_o8, _⟩ | ⟨rfl, f_o6, f_o8, hp, h_o6, c_o6, h_o8, c_o8, _⟩ | ⟨rfl, f_o6, hp, h_o6, c_o6, _⟩ | ⟨rfl, f_o8, hp, h_o8, c_o8, _⟩ | ⟨rfl, f_o6, f_o8, hp, h_o6, c_o6, h_o8, c_o8, _⟩ | ⟨rfl, f_o6, hp, h_o6, c_o6, _⟩ | ⟨rfl, f_o6, f_o8, hp, h_o6, c_o6, h_o8, c_o8, _⟩ | ⟨rfl, f_o6, f_o8, hp, h_o6, c_o6, h_o8, c_o8, _⟩
    · refine eff_perm hp ?_
      refine Eff.mono (eff_alloc za29) ?_
      rintro v R' O' hle' ⟨rfl, b, rfl, rfl⟩
      exact ⟨rfl, .inr (.inr (.inr (.inl ⟨rfl, (List.Perm.refl _), trivial⟩)))⟩
    · refine eff_perm hp ?_
      refine Eff.mono (eff_alloc za29) ?_
      rintro v R' O' hle' ⟨rfl, b, rfl, rfl⟩
      exact ⟨rfl, .inr (.inr (.inr (.inr (.inr (.inr (.inl ⟨rfl, f_o6, (pk 1 rfl (pk 0 rfl (List.Perm.refl _))), h_o6, c_o6, trivial⟩))))))⟩
    · refine eff_perm hp ?_
      refine Eff.mono (eff_alloc za29) ?_
      rintro v R' O' hle' ⟨rfl, b, rfl, rfl⟩
      exact ⟨rfl, .inr (.inr (.inr (.inr (.inr (.inr (.inr (.inr (.inl ⟨rfl, f_o8, (pk 1 rfl (pk 0 rfl (List.Perm.refl _))), h_o8, c_o8, trivial⟩))))))))⟩
    · cases hf
    · refine eff_perm hp ?_
      refine Eff.mono (eff_alloc za29) ?_
      rintro v R' O' hle' ⟨rfl, b, rfl, rfl⟩
      exact ⟨rfl, .inr (.inr (.inr (.inr (.inr (.inr (.inr (.inr (.inr (.inr (.inl ⟨rfl, (List.Perm.refl _), trivial⟩))))))))))⟩
    · refine eff_perm hp ?_
      refine Eff.mono (eff_alloc za29) ?_
      rintro v R' O' hle' ⟨rfl, b, rfl, rfl⟩
      exact ⟨rfl, .inr (.inr (.inr (.inr (.inr (.inr (.inr (.inr (.inr (.inr (.inr (.inl ⟨rfl, f_o6, f_o8, (pk 1 rfl (pk 1 rfl (pk 0 rfl (List.Perm.refl _)))), h_o6, c_o6, h_o8, c_o8, trivial⟩)))))))))))⟩
    · cases hf
    · refine eff_perm hp ?_
      refine Eff.mono (eff_alloc za29) ?_
      rintro v R' O' hle' ⟨rfl, b, rfl, rfl⟩
      exact ⟨rfl, .inr (.inr (.inr (.inr (.inr (.inr (.inr (.inr (.inr (.inr (.inr (.inr (.inr (.inl ⟨rfl, f_o6, (pk 1 rfl (pk 0 rfl (pk 0 rfl (List.Perm.refl _)))), h_o6, c_o6, trivial⟩)))))))))))))⟩
    · cases hf
    · refine eff_perm hp ?_
      refine Eff.mono (eff_alloc za29) ?_
      rintro v R' O' hle' ⟨rfl, b, rfl, rfl⟩
      exact ⟨rfl, .inr (.inr (.inr (.inr (.inr (.inr (.inr (.inr (.inr (.inr (.inr (.inr (.inr (.inr (.inl ⟨rfl, f_o8, (pk 1 rfl (pk 0 rfl (pk 0 rfl (List.Perm.refl _)))), h_o8, c_o8, trivial⟩))))))))))))))⟩
    · cases hf
    · cases hf
    · refine eff_perm hp ?_
      refine Eff.mono (eff_alloc za29) ?_
      rintro v R' O' hle' ⟨rfl, b, rfl, rfl⟩
      exact ⟨rfl, .inr (.inr (.inr (.inr (.inr (.inr (.inr (.inr (.inr (.inr (.inr (.inr (.inr (.inr (.inr (.inl ⟨rfl, f_o6, f_o8, (pk 1 rfl (pk 1 rfl (pk 0 rfl (pk 0 rfl (List.Perm.refl _))))), h_o6, c_o6, h_o8, c_o8, trivial⟩)))))))))))))))⟩
    · cases hf
    · cases hf
    · cases hf
    · cases hf
    · cases hf
    · cases hf
  · intro l R9q fl O hle ha hd hk hf hW
    rcases hW with ⟨rfl, hp, _⟩ | ⟨rfl, f_o6, hp, h_o6, c_o6, _⟩ | ⟨rfl, f_o8, hp, h_o8, c_o8, _⟩ | ⟨rfl, hp, _⟩ | ⟨rfl, hp, _⟩ | ⟨rfl, f_o6, f_o8, hp, h_o6, c_o6, h_o8, c_o8, _⟩ | ⟨rfl, f_o6, hp, h_o6, c_o6, _⟩ | ⟨rfl, f_o6, hp, h_o6, c_o6, _⟩ | ⟨rfl, f_o8, hp, h_o8, c_o8, _⟩ | ⟨rfl, f_o8, hp, h_o8, c_o8, _⟩ | ⟨rfl, hp, _⟩ | ⟨rfl, f_o6, f_o8, hp, h_o6, c_o6, h_o8, c_o8, _⟩ | ⟨rfl, f_o6, f_o8, hp, h_o6, c_o6, h_o8, c_o8, _⟩ | ⟨rfl, f_o6, hp, h_o6, c_o6, _⟩ | ⟨rfl, f_o8, hp, h_o8, c_o8, _⟩ | ⟨rfl, f_o6, f_o8, hp, h_o6, c_o6, h_o8, c_o8, _⟩ | ⟨rfl, f_o6, hp, h_o6, c_o6, _⟩ | ⟨rfl, f_o6, f_o8, hp, h_o6, c_o6, h_o8, c_o8, _⟩ | ⟨rfl, f_o6, f_o8, hp, h_o6, c_o6, h_o8, c_o8, _⟩
    · refine eff_perm hp ?_
      refine Eff.mono (eff_alloc za30) ?_
      rintro v R' O' hle' ⟨rfl, b, rfl, rfl⟩
      exact ⟨rfl, .inr (.inr (.inr (.inr (.inl ⟨rfl, (List.Perm.refl _), trivial⟩))))⟩
    · refine eff_perm hp ?_
      refine Eff.mono (eff_alloc za30) ?_
      rintro v R' O' hle' ⟨rfl, b, rfl, rfl⟩
      exact ⟨rfl, .inr (.inr (.inr (.inr (.inr (.inr (.inr (.inl ⟨rfl, f_o6, (pk 1 rfl (pk 0 rfl (List.Perm.refl _))), h_o6, c_o6, trivial⟩)))))))⟩
    · refine eff_perm hp ?_
      refine Eff.mono (eff_alloc za30) ?_
      rintro v R' O' hle' ⟨rfl, b, rfl, rfl⟩
      exact ⟨rfl, .inr (.inr (.inr (.inr (.inr (.inr (.inr (.inr (.inr (.inl ⟨rfl, f_o8, (pk 1 rfl (pk 0 rfl (List.Perm.refl _))), h_o8, c_o8, trivial⟩)))))))))⟩
    · refine eff_perm hp ?_
      refine Eff.mono (eff_alloc za30) ?_
      rintro v R' O' hle' ⟨rfl, b, rfl, rfl⟩
      exact ⟨rfl, .inr (.inr (.inr (.inr (.inr (.inr (.inr (.inr (.inr (.inr (.inl ⟨rfl, (pk 1 rfl (pk 0 rfl (List.Perm.refl _))), trivial⟩))))))))))⟩
    · cases hf
    · refine eff_perm hp ?_
      refine Eff.mono (eff_alloc za30) ?_
      rintro v R' O' hle' ⟨rfl, b, rfl, rfl⟩
      exact ⟨rfl, .inr (.inr (.inr (.inr (.inr (.inr (.inr (.inr (.inr (.inr (.inr (.inr (.inl ⟨rfl, f_o6, f_o8, (pk 1 rfl (pk 1 rfl (pk 0 rfl (List.Perm.refl _)))), h_o6, c_o6, h_o8, c_o8, trivial⟩))))))))))))⟩
    · refine eff_perm hp ?_
      refine Eff.mono (eff_alloc za30) ?_
      rintro v R' O' hle' ⟨rfl, b, rfl, rfl⟩
      exact ⟨rfl, .inr (.inr (.inr (.inr (.inr (.inr (.inr (.inr (.inr (.inr (.inr (.inr (.inr (.inl ⟨rfl, f_o6, (pk 1 rfl (pk 1 rfl (pk 0 rfl (List.Perm.refl _)))), h_o6, c_o6, trivial⟩)))))))))))))⟩
    · cases hf
    · refine eff_perm hp ?_
      refine Eff.mono (eff_alloc za30) ?_
      rintro v R' O' hle' ⟨rfl, b, rfl, rfl⟩
      exact ⟨rfl, .inr (.inr (.inr (.inr (.inr (.inr (.inr (.inr (.inr (.inr (.inr (.inr (.inr (.inr (.inl ⟨rfl, f_o8, (pk 1 rfl (pk 1 rfl (pk 0 rfl (List.Perm.refl _)))), h_o8, c_o8, trivial⟩))))))))))))))⟩
    · cases hf
    · cases hf
    · refine eff_perm hp ?_
      refine Eff.mono (eff_alloc za30) ?_
      rintro v R' O' hle' ⟨rfl, b, rfl, rfl⟩
      exact ⟨rfl, .inr (.inr (.inr (.inr (.inr (.inr (.inr (.inr (.inr (.inr (.inr (.inr (.inr (.inr (.inr (.inl ⟨rfl, f_o6, f_o8, (pk 1 rfl (pk 1 rfl (pk 1 rfl (pk 0 rfl (List.Perm.refl _))))), h_o6, c_o6, h_o8, c_o8, trivial⟩)))))))))))))))⟩
    · cases hf
    · cases hf
    · cases hf
    · cases hf
    · cases hf
    · cases hf
    · cases hf
  · intro l R10q fl O hle ha hd hk hf hW
    obtain ⟨d0, d1, d2, d3, d4, d5, d6, d7, d8, d9, d10, d11, _⟩ := hd
    have f6 : l 6 = (.pointer (some ⟨(blkOf (l 6)), 0, none⟩)) := d0 rfl
    have f12 : (l 12).oneCell' = true := d1 rfl
    rcases hW with ⟨rfl, hp, _⟩ | ⟨rfl, f_o6, hp, h_o6, c_o6, _⟩ | ⟨rfl, f_o8, hp, h_o8, c_o8, _⟩ | ⟨rfl, hp, _⟩ | ⟨rfl, hp, _⟩ | ⟨rfl, f_o6, f_o8, hp, h_o6, c_o6, h_o8, c_o8, _⟩ | ⟨rfl, f_o6, hp, h_o6, c_o6, _⟩ | ⟨rfl, f_o6, hp, h_o6, c_o6, _⟩ | ⟨rfl, f_o8, hp, h_o8, c_o8, _⟩ | ⟨rfl, f_o8, hp, h_o8, c_o8, _⟩ | ⟨rfl, hp, _⟩ | ⟨rfl, f_o6, f_o8, hp, h_o6, c_o6, h_o8, c_o8, _⟩ | ⟨rfl, f_o6, f_o8, hp, h_o6, c_o6, h_o8, c_o8, _⟩ | ⟨rfl, f_o6, hp, h_o6, c_o6, _⟩ | ⟨rfl, f_o8, hp, h_o8, c_o8, _⟩ | ⟨rfl, f_o6, f_o8, hp, h_o6, c_o6, h_o8, c_o8, _⟩ | ⟨rfl, f_o6, hp, h_o6, c_o6, _⟩ | ⟨rfl, f_o6, f_o8, hp, h_o6, c_o6, h_o8, c_o8, _⟩ | ⟨rfl, f_o6, f_o8, hp, h_o6, c_o6, h_o8, c_o8, _⟩
    · exact kn_no hk (by kernel_rfl)
    · exact kn_no hk (by kernel_rfl)
    · exact kn_no hk (by kernel_rfl)
    · exact kn_no hk (by kernel_rfl)
    · exact kn_no hk (by kernel_rfl)
    · exact kn_no hk (by kernel_rfl)
    · exact kn_no hk (by kernel_rfl)
    · exact kn_no hk (by kernel_rfl)
    · exact kn_no hk (by kernel_rfl)
    · exact kn_no hk (by kernel_rfl)
    · exact kn_no hk (by kernel_rfl)
    · exact kn_no hk (by kernel_rfl)
    · exact kn_no hk (by kernel_rfl)
    · refine eff_perm hp ?_
      refine Eff.mono (eff_store (i := 1) (vs := [(l 12)]) sz29 f6 rfl (orep_cells h_o6) rfl rfl (Nat.le_of_ble_eq_true rfl) (one_cons (orep_one h_o6) one_nil)) ?_
      rintro v R' O' hle' ⟨_, rfl, rfl⟩
      exact ⟨trivial, .inr (.inr (.inr (.inr (.inr (.inr (.inr (.inr (.inr (.inr (.inr (.inr (.inr (.inr (.inr (.inr (.inl ⟨rfl, f_o6, (List.Perm.refl _), h_o6, c_o6, trivial⟩))))))))))))))))⟩
    · exact kn_no hk (by kernel_rfl)
    · refine eff_perm hp ?_
      refine Eff.mono (eff_store (i := 2) (vs := [(l 12)]) sz29 f6 rfl (orep_cells h_o6) rfl rfl (Nat.le_of_ble_eq_true rfl) (one_cons (orep_one h_o6) one_nil)) ?_
      rintro v R' O' hle' ⟨_, rfl, rfl⟩
      exact ⟨trivial, .inr (.inr (.inr (.inr (.inr (.inr (.inr (.inr (.inr (.inr (.inr (.inr (.inr (.inr (.inr (.inr (.inr (.inl ⟨rfl, f_o6, f_o8, (List.Perm.refl _), h_o6, c_o6, h_o8, c_o8, trivial⟩)))))))))))))))))⟩
    · cases hf
    · cases hf
    · cases hf
  · intro l R11q fl O hle ha hd hk hf hW
    obtain ⟨d0, d1, d2, d3, d4, d5, d6, d7, d8, d9, d10, d11, d12, d13, _⟩ := hd
    have f7 : l 7 = (.pointer (some ⟨(blkOf (l 7)), 0, none⟩)) := d0 rfl
    have f16 : (l 16).oneCell' = true := d1 rfl
    rcases hW with ⟨rfl, hp, _⟩ | ⟨rfl, f_o6, hp, h_o6, c_o6, _⟩ | ⟨rfl, f_o8, hp, h_o8, c_o8, _⟩ | ⟨rfl, hp, _⟩ | ⟨rfl, hp, _⟩ | ⟨rfl, f_o6, f_o8, hp, h_o6, c_o6, h_o8, c_o8, _⟩ | ⟨rfl, f_o6, hp, h_o6, c_o6, _⟩ | ⟨rfl, f_o6, hp, h_o6, c_o6, _⟩ | ⟨rfl, f_o8, hp, h_o8, c_o8, _⟩ | ⟨rfl, f_o8, hp, h_o8, c_o8, _⟩ | ⟨rfl, hp, _⟩ | ⟨rfl, f_o6, f_o8, hp, h_o6, c_o6, h_o8, c_o8, _⟩ | ⟨rfl, f_o6, f_o8, hp, h_o6, c_o6, h_o8, c_o8, _⟩ | ⟨rfl, f_o6, hp, h_o6, c_o6, _⟩ | ⟨rfl, f_o8, hp, h_o8, c_o8, _⟩ | ⟨rfl, f_o6, f_o8, hp, h_o6, c_o6, h_o8, c_o8, _⟩ | ⟨rfl, f_o6, hp, h_o6, c_o6, _⟩ | ⟨rfl, f_o6, f_o8, hp, h_o6, c_o6, h_o8, c_o8, _⟩ | ⟨rfl, f_o6, f_o8, hp, h_o6, c_o6, h_o8, c_o8, _⟩
    · exact kn_no hk (by kernel_rfl)
    · exact kn_no hk (by kernel_rfl)
    · exact kn_no hk (by kernel_rfl)
    · exact kn_no hk (by kernel_rfl)
    · exact kn_no hk (by kernel_rfl)
    · exact kn_no hk (by kernel_rfl)
    · exact kn_no hk (by kernel_rfl)
    · exact kn_no hk (by kernel_rfl)
    · exact kn_no hk (by kernel_rfl)
    · exact kn_no hk (by kernel_rfl)
    · exact kn_no hk (by kernel_rfl)
    · exact kn_no hk (by kernel_rfl)
    · exact kn_no hk (by kernel_rfl)
    · exact kn_no hk (by kernel_rfl)
    · exact kn_no hk (by kernel_rfl)
    · exact kn_no hk (by kernel_rfl)
    · exact kn_no hk (by kernel_rfl)
    · refine eff_perm hp ?_
      refine Eff.mono (eff_store (i := 3) (vs := [(l 16)]) sz30 f7 rfl (orep_cells h_o8) rfl rfl (Nat.le_of_ble_eq_true rfl) (one_cons (orep_one h_o8) one_nil)) ?_
      rintro v R' O' hle' ⟨_, rfl, rfl⟩
      exact ⟨trivial, .inr (.inr (.inr (.inr (.inr (.inr (.inr (.inr (.inr (.inr (.inr (.inr (.inr (.inr (.inr (.inr (.inr (.inr ⟨rfl, f_o6, f_o8, (List.Perm.refl _), h_o6, c_o6, h_o8, c_o8, trivial⟩)))))))))))))))))⟩
    · cases hf
  intro v13
  intro v14
  intro v15
  intro v16
  intro v17
  intro v18
  intro v19
  intro v20
  intro v21
  intro v22
  intro h23
  intro h24
  intro h25
  intro h26
  intro h27
  intro h28
  intro h29
  intro h30
  intro h31
  intro h32
  rintro OO33 (⟨e, _⟩ | ⟨e, _⟩ | ⟨e, _⟩ | ⟨e, _⟩ | ⟨e, _⟩ | ⟨e, _⟩ | ⟨e, _⟩ | ⟨e, _⟩ | ⟨e, _⟩ | ⟨e, _⟩ | ⟨e, _⟩ | ⟨e, _⟩ | ⟨e, _⟩ | ⟨e, _⟩ | ⟨e, _⟩ | ⟨e, _⟩ | ⟨e, _⟩ | ⟨e, _⟩ | ⟨_, f34, f37, hp, h35, c36, h38, c39, _⟩)
  · cases e
  · cases e
  · cases e
  · cases e
  · cases e
  · cases e
  · cases e
  · cases e
  · cases e
  · cases e
  · cases e
  · cases e
  · cases e
  · cases e
  · cases e
  · cases e
  · cases e
  · cases e
  refine ⟨[], _, hp, ?_⟩
  replace h35 : ORep (tSl true (tInt .i64)) R11 f34 v16 (mk (↑m.rows.length : Int) ([] : List Int)) := h35
  replace c36 : capOf v16 = (mk (↑m.rows.length : Int) ([] : List Int)).length := c36
  replace h38 : ORep tBool R11 f37 v20 (mk (↑m.rows.length : Int) false) := h38
  replace c39 : capOf v20 = (mk (↑m.rows.length : Int) false).length := c39
  obtain ⟨b40, rfl⟩ : ∃ b, v21 = .pointer (some ⟨b, 0, none⟩) := ⟨_, h31⟩
  obtain ⟨b41, rfl⟩ : ∃ b, v22 = .pointer (some ⟨b, 0, none⟩) := ⟨_, h32⟩
  obtain rfl := Eq.symm h25
  obtain rfl := Eq.symm h29
  refine wo_nil ?_
  refine wg_seq ?_
  refine wg_seq ?_
  refine wg_region ?_
  refine wo_loadR rfl ty27 rfl (h2.mono le12) fun v42 h43 => ?_
  refine wo_v rfl (val_move (v := (.int .i64 from_)) rfl) ?_
  replace hd0 := bd_some hd0; obtain ⟨y44, c45, hd0⟩ := hd0
  refine wo_callP rfl en58 rfl (c_walks_arrivals h43 c45) fun v46 R48 le49 h47 => ?_
  obtain ⟨v50, v51, rfl, h52, h53⟩ := h47
  refine wo_nil ?_
  refine wg_block ?_
  replace hd0 := bd_some hd0; obtain ⟨o54, c55, hd0⟩ := hd0
  refine wg_iterS (Oc := [f34, f37, box b40 [v16] 29, box b41 [v20] 30]) (Or := A) _ (fun (s : List (List Int) × List Bool) R O => ∃ (f60 : Frag) (f63 : Frag), (∃ J, O.Perm (J ++ [box b40 [v16] 29, f60, box b41 [v20] 30, f63])) ∧ ORep (tSl true (tInt .i64)) R f60 v16 s.1 ∧ capOf v16 = s.1.length ∧ ORep tBool R f63 v20 s.2 ∧ capOf v20 = s.2.length ∧ True) (fun (s : List (List Int) × List Bool) (c : Code) R O => False) _ _ rfl en72 (c_walks_arrivals_1 (N := N) h52 h53) (List.Perm.refl _) (by decide) (by rintro _ _ _ rfl; rfl) (by rintro s R2 R3 O2 hle ⟨f60, f63, hJ, h61, ht62, h64, ht65, _⟩; exact ⟨f60, f63, hJ, h61.mono hle, ht62, h64.mono hle, ht65, trivial⟩) (fun _ _ _ _ _ _ h => h) (fun _ _ _ _ _ h => h.elim) ⟨f34, f37, ⟨[], (pk 2 rfl (pk 0 rfl (pk 1 rfl (pk 0 rfl (List.Perm.refl _)))))⟩, (h35.mono le49), c36, (h38.mono le49), c39, trivial⟩ c55 ?_ ?_ ?_
  ·
    rintro y56 x57 b66 s67 lb68 R69 vs70 Oc71 le72 he73 ⟨f60, f63, ⟨_, hJ⟩, h61, ht62, h64, ht65, _⟩ hB75 X76
    have hd1 := hB75; clear hB75
    try dsimp only at hd1
    refine wg_junk (perm_mid hJ) ?_
    obtain rfl := he73
    refine wg_region ?_
    refine wo_alloc rfl za102 fun b77 => ?_
    refine wo_store (i := 0) (vs := [(.int .i64 y56.f_state), (.int .i64 y56.f_from), (.int .i64 y56.f_input)]) sz102 rfl rfl rfl rfl rfl rfl (one_cons rfl (one_cons rfl (one_cons rfl one_nil))) ?_
    refine wo_nil ?_
    refine ⟨rfl, rfl, (RH.le.refl _), [box b77 [(.int .i64 y56.f_state), (.int .i64 y56.f_from), (.int .i64 y56.f_input)] 102, box b40 [v16] 29, f60, box b41 [v20] 30, f63], List.Perm.refl _, fun X79 => ?_⟩
    refine wg_block ?_
    refine wg_seq ?_
    refine wg_region ?_
    refine wo_v rfl (val_loadB (i := 3) ag30 rfl rfl rfl) ?_
    refine wo_v rfl (val_fieldB fd102_0 rfl) ?_
    refine wo_v rfl (val_loadB (i := 0) ag3 rfl rfl rfl) ?_
    have g80 := (gd_some hd1).1; replace hd1 := (gd_some hd1).2
    refine wo_indexO (i := y56.f_state.toNat) rfl sl30 rfl h64 (idx_nonneg rfl g80.1) (okI_lt g80) fun v81 h82 => ?_
    refine wo_storeO (i := y56.f_state.toNat) (j := 4) ty4 h64 rfl rfl h82 (okI_lt g80) rfl (vrep_bool.2 rfl) fun f83 h84 => ?_
    refine wo_nil ?_
    refine wg_seq ?_
    refine wg_region ?_
    refine wo_v rfl (val_fieldB fd102_1 rfl) ?_
    refine wo_v rfl (val_loadB (i := 0) ag3 rfl rfl rfl) ?_
    refine wo_v rfl (val_neq rfl rfl) ?_
    refine wo_nil ?_
    refine wg_cond rfl (fun e85 => ?_) (fun e85 => ?_)
    · replace hd1 := sel_t e85 hd1; clear e85
      have g86 := (gd_some hd1).1; replace hd1 := (gd_some hd1).2
      replace hd1 := bd_some hd1; obtain ⟨y87, c88, hd1⟩ := hd1
      have g90 := (gd_some hd1).1; replace hd1 := (gd_some hd1).2
      replace hd1 := bd_some hd1; obtain ⟨y91, c92, hd1⟩ := hd1
      have g93 := (gd_some hd1).1; replace hd1 := (gd_some hd1).2
      refine wg_free [8, 12, 15] [(fun es => phX v16), (fun es => phX (.pointer (some ⟨b77, 0, none⟩))), (fun es => phX (.int .i64 y56.f_state)), (fun es => phX v16), (fun es => phX (.pointer (some ⟨b77, 1, none⟩))), (fun es => phX (.int .i64 y56.f_from)), (fun es => (fun u _ => OPtr (tSl true (tInt .i64)) v16 x57.1 u y56.f_from.toNat)), (fun es => phR (tSl true (tInt .i64)) (ix x57.1 y56.f_from)), (fun es => (fun v _ => v.oneCell' = true)), (fun es => phX (.pointer (some ⟨b77, 2, none⟩))), (fun es => phX (.int .i64 y56.f_input)), (fun es => phR (tSl true (tInt .i64)) ([y56.f_input] : List Int)), (fun es => phR (tSl false (tInt .i64)) (y87 ++ ([y56.f_input] : List Int))), (fun es => phR (tSl true (tInt .i64)) y91), (fun es => (fun u _ => OPtr (tSl true (tInt .i64)) v16 x57.1 u y56.f_state.toNat)), (fun es => (fun _ _ => True))] (fun fl es R O => (fl = [false, false, false] ∧ O.Perm ([box b77 [(.int .i64 y56.f_state), (.int .i64 y56.f_from), (.int .i64 y56.f_input)] 102, box b40 [v16] 29, f60, box b41 [v20] 30, f83] ++ X79) ∧ True) ∨ (fl = [true, false, false] ∧ ∃ (f_o89 : Frag), O.Perm ([box b77 [(.int .i64 y56.f_state), (.int .i64 y56.f_from), (.int .i64 y56.f_input)] 102, box b40 [v16] 29, f60, box b41 [v20] 30, f83, f_o89] ++ X79) ∧ ORep (tInt .i64) R f_o89 (es.getD 0 undef) y87 ∧ True) ∨ (fl = [true, true, false] ∧ O.Perm ([box b77 [(.int .i64 y56.f_state), (.int .i64 y56.f_from), (.int .i64 y56.f_input)] 102, box b40 [v16] 29, f60, box b41 [v20] 30, f83] ++ X79) ∧ True) ∨ (fl = [true, true, true] ∧ ∃ (f_o6 : Frag), O.Perm ([box b77 [(.int .i64 y56.f_state), (.int .i64 y56.f_from), (.int .i64 y56.f_input)] 102, box b40 [v16] 29, f_o6, box b41 [v20] 30, f83] ++ X79) ∧ ORep (tSl true (tInt .i64)) R f_o6 v16 (up x57.1 y56.f_state y91) ∧ True)) mixed (by kernel_rfl) ⟨(monoE_of mono_x), (monoE_of mono_x), (monoE_of mono_x), (monoE_of mono_x), (monoE_of mono_x), (monoE_of mono_x), (monoE_of (fun _ _ _ _ h => h)), (monoE_of mono_r), (fun _ _ _ _ _ h => h), (monoE_of mono_x), (monoE_of mono_x), (monoE_of mono_r), (monoE_of mono_r), (monoE_of mono_r), (monoE_of (fun _ _ _ _ h => h)), (fun _ _ _ _ _ h => h), trivial⟩ (by
          rintro fl es R R' O hle (⟨rfl, hp, _⟩ | ⟨rfl, f_o89, hp, h_o89, _⟩ | ⟨rfl, hp, _⟩ | ⟨rfl, f_o6, hp, h_o6, _⟩)
          · exact (.inl ⟨rfl, hp, trivial⟩)
          · exact (.inr (.inl ⟨rfl, f_o89, hp, (h_o89.mono hle), trivial⟩))
          · exact (.inr (.inr (.inl ⟨rfl, hp, trivial⟩)))
          · exact (.inr (.inr (.inr ⟨rfl, f_o6, hp, (h_o6.mono hle), trivial⟩)))) ⟨(fun _ _ _ _ _ h => h), (fun _ _ _ _ _ h => h), (fun _ _ _ _ _ h => h), (fun _ _ _ _ _ h => h), (fun _ _ _ _ _ h => h), (fun _ _ _ _ _ h => h), (fun _ _ _ _ _ h => h), (fun _ _ _ _ _ h => h), (fun _ _ _ _ _ h => h), (fun _ _ _ _ _ h => h), (fun _ _ _ _ _ h => h), (fun _ _ _ _ _ h => h), (fun _ _ _ _ _ h => h), (fun _ _ _ _ _ h => h), (fun _ _ _ _ _ h => h), (fun _ _ _ _ _ h => h), trivial⟩ (fun es => .inl ⟨rfl, (List.Perm.refl _), trivial⟩) ⟨?_, ?_, ?_, ?_, ?_, ?_, ?_, ?_, ?_, ?_, ?_, ?_, ?_, ?_, ?_, ?_, trivial⟩ fun R94 le95 => ?_
      · intro l R0q fl O hle ha hd hk hW
        have a6 : l 6 = (.pointer (some ⟨b40, 0, none⟩)) := ha 6 rfl
        rcases hW with ⟨rfl, hp, _⟩ | ⟨rfl, f_o89, hp, h_o89, _⟩ | ⟨rfl, hp, _⟩ | ⟨rfl, f_o6, hp, h_o6, _⟩
        · exact eff_permP hp (ph_val (val_loadB (i := 1) ag29 a6 rfl rfl))
        · exact eff_permP hp (ph_val (val_loadB (i := 1) ag29 a6 rfl rfl))
        · exact eff_permP hp (ph_val (val_loadB (i := 1) ag29 a6 rfl rfl))
        · exact kn_no hk (by kernel_rfl)
      · intro l R1q fl O hle ha hd hk hW
        have a8 : l 8 = (.pointer (some ⟨b77, 0, none⟩)) := ha 8 rfl
        exact ph_val (val_fieldB fd102_0 a8)
      · intro l R2q fl O hle ha hd hk hW
        obtain ⟨d0, _⟩ := hd
        have f29 : l 29 = (.pointer (some ⟨b77, 0, none⟩)) := d0 rfl
        rcases hW with ⟨rfl, hp, _⟩ | ⟨rfl, f_o89, hp, h_o89, _⟩ | ⟨rfl, hp, _⟩ | ⟨rfl, f_o6, hp, h_o6, _⟩
        · exact eff_permP hp (ph_val (val_loadB (i := 0) ag3 f29 rfl rfl))
        · exact eff_permP hp (ph_val (val_loadB (i := 0) ag3 f29 rfl rfl))
        · exact eff_permP hp (ph_val (val_loadB (i := 0) ag3 f29 rfl rfl))
        · exact kn_no hk (by kernel_rfl)
      · intro l R3q fl O hle ha hd hk hW
        have a6 : l 6 = (.pointer (some ⟨b40, 0, none⟩)) := ha 6 rfl
        rcases hW with ⟨rfl, hp, _⟩ | ⟨rfl, f_o89, hp, h_o89, _⟩ | ⟨rfl, hp, _⟩ | ⟨rfl, f_o6, hp, h_o6, _⟩
        · exact eff_permP hp (ph_val (val_loadB (i := 1) ag29 a6 rfl rfl))
        · exact kn_no hk (by kernel_rfl)
        · exact kn_no hk (by kernel_rfl)
        · exact kn_no hk (by kernel_rfl)
      · intro l R4q fl O hle ha hd hk hW
        have a8 : l 8 = (.pointer (some ⟨b77, 0, none⟩)) := ha 8 rfl
        exact ph_val (val_fieldB fd102_1 a8)
      · intro l R5q fl O hle ha hd hk hW
        obtain ⟨d0, _⟩ := hd
        have f32 : l 32 = (.pointer (some ⟨b77, 1, none⟩)) := d0 rfl
        rcases hW with ⟨rfl, hp, _⟩ | ⟨rfl, f_o89, hp, h_o89, _⟩ | ⟨rfl, hp, _⟩ | ⟨rfl, f_o6, hp, h_o6, _⟩
        · exact eff_permP hp (ph_val (val_loadB (i := 0) ag3 f32 rfl rfl))
        · exact kn_no hk (by kernel_rfl)
        · exact kn_no hk (by kernel_rfl)
        · exact kn_no hk (by kernel_rfl)
      · intro l R6q fl O hle ha hd hk hW
        obtain ⟨d0, d1, _⟩ := hd
        have f31 : l 31 = v16 := d0 rfl
        have f33 : l 33 = (.int .i64 y56.f_from) := d1 rfl
        exact ph_indexO (i := y56.f_from.toNat) sl29 f31 (h61.mono hle) (idx_nonneg f33 g86.1) (okI_lt g86)
      · intro l R7q fl O hle ha hd hk hW
        obtain ⟨d0, _⟩ := hd
        have f34 : (fun u _ => OPtr (tSl true (tInt .i64)) v16 x57.1 u y56.f_from.toNat) (l 34) R7q := d0 rfl
        rcases hW with ⟨rfl, hp, _⟩ | ⟨rfl, f_o89, hp, h_o89, _⟩ | ⟨rfl, hp, _⟩ | ⟨rfl, f_o6, hp, h_o6, _⟩
        · exact eff_permP hp (ph_loadO (i := y56.f_from.toNat) (j := 2) ty36 (h61.mono hle) rfl rfl f34 (okI_lt g86))
        · exact kn_no hk (by kernel_rfl)
        · exact kn_no hk (by kernel_rfl)
        · exact kn_no hk (by kernel_rfl)
      · intro l R8q fl O hle ha hd hk hf hW
        obtain ⟨d0, _⟩ := hd
        have f35 : phR (tSl true (tInt .i64)) (ix x57.1 y56.f_from) (l 35) R8q := d0 rfl
        rcases hW with ⟨rfl, hp, _⟩ | ⟨rfl, f_o89, hp, h_o89, _⟩ | ⟨rfl, hp, _⟩ | ⟨rfl, f_o6, hp, h_o6, _⟩
        · refine eff_perm hp ?_
          refine eff_perm (O1 := [] ++ ([box b77 [(.int .i64 y56.f_state), (.int .i64 y56.f_from), (.int .i64 y56.f_input)] 102, box b40 [v16] 29, f60, box b41 [v20] 30, f83] ++ X79)) (List.Perm.refl _) ?_
          refine Eff.mono (eff_callO (cs := []) (vs := [(l 35)]) en59 rfl rfl (c_slices_Clone_int_o (Sub.v (B := (tSl false (tInt .i64))) (sub_sl Sub.refl (fun _ => rfl)) f35) c88)) ?_
          rintro v R' O' hle' ⟨_, rfl, u_, f_o89, rfl, rfl, h_o89⟩
          exact ⟨(orep_one h_o89), .inr (.inl ⟨rfl, f_o89, (pk 1 rfl (pk 1 rfl (pk 1 rfl (pk 1 rfl (pk 1 rfl (pk 0 rfl (List.Perm.refl _))))))), h_o89, trivial⟩)⟩
        · cases hf
        · cases hf
        · cases hf
      · intro l R9q fl O hle ha hd hk hW
        have a8 : l 8 = (.pointer (some ⟨b77, 0, none⟩)) := ha 8 rfl
        exact ph_val (val_fieldB fd102_2 a8)
      · intro l R10q fl O hle ha hd hk hW
        obtain ⟨d0, _⟩ := hd
        have f37 : l 37 = (.pointer (some ⟨b77, 2, none⟩)) := d0 rfl
        rcases hW with ⟨rfl, hp, _⟩ | ⟨rfl, f_o89, hp, h_o89, _⟩ | ⟨rfl, hp, _⟩ | ⟨rfl, f_o6, hp, h_o6, _⟩
        · exact eff_permP hp (ph_val (val_loadB (i := 0) ag3 f37 rfl rfl))
        · exact eff_permP hp (ph_val (val_loadB (i := 0) ag3 f37 rfl rfl))
        · exact kn_no hk (by kernel_rfl)
        · exact kn_no hk (by kernel_rfl)
      · intro l R11q fl O hle ha hd hk hW
        obtain ⟨d0, _⟩ := hd
        have f38 : l 38 = (.int .i64 y56.f_input) := d0 rfl
        exact ph_litT (T := (tInt .i64)) (X := ([y56.f_input] : List Int)) (ps := [(0, (.int .i64 y56.f_input))]) (css := [[(.int .i64 y56.f_input)]]) Try.underlying36 zo3 (by simp only [List.map, ev, f38] <;> rfl) rfl (lit_reps ⟨rfl, trivial⟩) rfl rfl (by decide)
      · intro l R12q fl O hle ha hd hk hf hW
        obtain ⟨d0, d1, d2, _⟩ := hd
        have f36 : (l 36).oneCell' = true := d0 rfl
        have f39 : phR (tSl true (tInt .i64)) ([y56.f_input] : List Int) (l 39) R12q := d1 rfl
        rcases hW with ⟨rfl, hp, _⟩ | ⟨rfl, f_o89, hp, h_o89, _⟩ | ⟨rfl, hp, _⟩ | ⟨rfl, f_o6, hp, h_o6, _⟩
        · exact kn_no hk (by kernel_rfl)
        · refine eff_perm hp ?_
          refine eff_perm (O1 := [f_o89] ++ ([box b77 [(.int .i64 y56.f_state), (.int .i64 y56.f_from), (.int .i64 y56.f_input)] 102, box b40 [v16] 29, f60, box b41 [v20] 30, f83] ++ X79)) (pk 5 rfl (pk 0 rfl (pk 0 rfl (pk 0 rfl (pk 0 rfl (pk 0 rfl (List.Perm.refl _))))))) ?_
          refine Eff.mono (eff_appF Try.underlying36 zo3 rfl rfl h_o89 (sl_s (Sub.v (B := (tSl false (tInt .i64))) (sub_sl Sub.refl (fun _ => rfl)) f39)) g90.1 g90.2) ?_
          rintro v R' O' hle' ⟨_, rfl, rfl, hv⟩
          exact ⟨hv, .inr (.inr (.inl ⟨rfl, (List.Perm.refl _), trivial⟩))⟩
        · cases hf
        · cases hf
      · intro l R13q fl O hle ha hd hk hW
        obtain ⟨d0, d1, _⟩ := hd
        have f40 : phR (tSl false (tInt .i64)) (y87 ++ ([y56.f_input] : List Int)) (l 40) R13q := d0 rfl
        exact ph_callP (vs := [(l 40)]) en41 rfl (c_slices_Clip_int f40 c92) (fun _ _ h => h)
      · intro l R14q fl O hle ha hd hk hW
        obtain ⟨d0, d1, d2, d3, d4, d5, d6, d7, d8, d9, d10, d11, d12, d13, d14, d15, _⟩ := hd
        have f28 : l 28 = v16 := d0 rfl
        have f30 : l 30 = (.int .i64 y56.f_state) := d1 rfl
        exact ph_indexO (i := y56.f_state.toNat) sl29 f28 (h61.mono hle) (idx_nonneg f30 g93.1) (okI_lt g93)
      · intro l R15q fl O hle ha hd hk hf hW
        obtain ⟨d0, d1, d2, d3, d4, d5, d6, d7, d8, d9, d10, d11, d12, d13, d14, d15, d16, _⟩ := hd
        have f42 : (fun u _ => OPtr (tSl true (tInt .i64)) v16 x57.1 u y56.f_state.toNat) (l 42) R15q := d0 rfl
        have f41 : phR (tSl true (tInt .i64)) y91 (l 41) R15q := d1 rfl
        rcases hW with ⟨rfl, hp, _⟩ | ⟨rfl, f_o89, hp, h_o89, _⟩ | ⟨rfl, hp, _⟩ | ⟨rfl, f_o6, hp, h_o6, _⟩
        · exact kn_no hk (by kernel_rfl)
        · exact kn_no hk (by kernel_rfl)
        · refine eff_perm hp ?_
          refine Eff.mono (free_storeO (i := y56.f_state.toNat) (j := 2) ty36 (h61.mono hle) rfl rfl f42 (okI_lt g93) rfl f41) ?_
          rintro v R' O' hle' ⟨rfl, f, rfl, ho⟩
          exact ⟨trivial, .inr (.inr (.inr ⟨rfl, f, (List.Perm.refl _), ho, trivial⟩))⟩
        · cases hf
      intro v96
      intro v97
      intro v98
      intro v99
      intro v100
      intro v101
      intro v102
      intro v103
      intro v104
      intro v105
      intro v106
      intro v107
      intro v108
      intro v109
      intro v110
      intro h111
      intro h112
      intro h113
      intro h114
      intro h115
      intro h116
      intro h117
      intro h118
      intro h119
      intro h120
      intro h121
      intro h122
      intro h123
      intro h124
      intro h125
      rintro OO126 (⟨e, _⟩ | ⟨e, _⟩ | ⟨e, _⟩ | ⟨_, f127, hp, h128, _⟩)
      · cases e
      · cases e
      · cases e
      refine ⟨[], _, hp, ?_⟩
      replace h128 : ORep (tSl true (tInt .i64)) R94 f127 v16 (up x57.1 y56.f_state y91) := h128
      obtain rfl := Eq.symm h111
      obtain rfl := Eq.symm h112
      obtain rfl := Eq.symm h113
      obtain rfl := Eq.symm h114
      obtain rfl := Eq.symm h115
      obtain rfl := Eq.symm h116
      obtain rfl := Eq.symm h120
      obtain rfl := Eq.symm h121
      refine wo_nil ?_
      obtain ⟨rfl, rfl⟩ := Prod.mk.inj (Option.some.inj hd1)
      exact ⟨rfl, le95, [box b77 [(.int .i64 y56.f_state), (.int .i64 y56.f_from), (.int .i64 y56.f_input)] 102, box b40 [v16] 29, f127, box b41 [v20] 30, f83], List.Perm.refl _, rfl, ⟨f127, f83, ⟨[box b77 [(.int .i64 y56.f_state), (.int .i64 y56.f_from), (.int .i64 y56.f_input)] 102], (List.Perm.refl _)⟩, h128, (ht62.trans List.length_set.symm), (h84.mono le95), (ht65.trans List.length_set.symm), trivial⟩⟩
    · replace hd1 := sel_f e85 hd1; clear e85
      refine wg_skip ?_
      obtain ⟨rfl, rfl⟩ := Prod.mk.inj (Option.some.inj hd1)
      exact ⟨rfl, (RH.le.refl _), [box b77 [(.int .i64 y56.f_state), (.int .i64 y56.f_from), (.int .i64 y56.f_input)] 102, box b40 [v16] 29, f60, box b41 [v20] 30, f83], List.Perm.refl _, rfl, ⟨f60, f83, ⟨[box b77 [(.int .i64 y56.f_state), (.int .i64 y56.f_from), (.int .i64 y56.f_input)] 102], (List.Perm.refl _)⟩, h61, ht62, h84, (ht65.trans List.length_set.symm), trivial⟩⟩
  ·
    rintro D138 R130 Oc139 le131 ⟨f132, f135, ⟨_, hJ⟩, h133, ht134, h136, ht137, _⟩
    refine ⟨_, _, hJ, ?_⟩
    refine wg_seq ?_
    refine wg_drawn 4 [] [phX v16, phX v20, phX v16, phX v20] mixed (by kernel_rfl) (monoOk_of ⟨mono_x, mono_x, mono_x, mono_x, trivial⟩) ⟨?_, ?_, ?_, ?_, trivial⟩ fun R140 le141 => ?_
    · intro l R0q hle ha hd
      have a6 : l 6 = (.pointer (some ⟨b40, 0, none⟩)) := ha 6 rfl
      exact gstep_plain rfl rfl rfl (ph_val (val_loadB (i := 0) ag29 a6 rfl rfl))
    · intro l R1q hle ha hd
      obtain ⟨d0, _⟩ := hd
      have a7 : l 7 = (.pointer (some ⟨b41, 0, none⟩)) := ha 7 rfl
      exact gstep_plain rfl rfl rfl (ph_val (val_loadB (i := 2) ag30 a7 rfl rfl))
    · intro l R2q hle ha hd
      obtain ⟨d0, d1, d2, _⟩ := hd
      have f43 : l 43 = v16 := d0 rfl
      exact gstep_plain rfl rfl rfl (ph_val (val_assign f43))
    · intro l R3q hle ha hd
      obtain ⟨d0, d1, d2, d3, d4, _⟩ := hd
      have f44 : l 44 = v20 := d0 rfl
      exact gstep_plain rfl rfl rfl (ph_val (val_assign f44))
    intro v142 h143
    intro v144 h145
    intro v146 h147
    intro v148 h149
    obtain rfl := Eq.symm h143
    obtain rfl := Eq.symm h145
    obtain rfl := Eq.symm h147
    obtain rfl := Eq.symm h149
    refine wo_nil ?_
    refine wg_freeze (i := 1) rfl (h133.mono le141) fun R150 le151 h152 => ?_
    have h153 : VRep (tSl true (tSl true (tInt .i64))) R150 v16 o54.1 := (sl_t h152 ht134)
    refine wg_freeze (i := 2) rfl (h136.mono (le141.trans le151)) fun R154 le155 h156 => ?_
    have h157 : VRep (tSl true tBool) R154 v20 o54.2 := (sl_t h156 ht137)
    refine wg_ret ?_
    obtain rfl := Option.some.inj hd0
    refine body_end (D := []) (J := [box b40 [v16] 29, box b41 [v20] 30]) (rs := [.tmp 4, .tmp 5]) (vs := [v16, v20]) ((((((le4.trans le12).trans le49).trans le131).trans le141).trans le151).trans le155) rfl rfl ⟨rfl, rfl, trivial⟩ ?_
    exact ⟨rfl, ⟨v16, v20, rfl, (h153.mono le155), h157⟩⟩
  ·
    exact fun _ _ _ _ _ h => h.elim
end GV
end Go.Proofs.Ytncblcdhmcmkmaa
