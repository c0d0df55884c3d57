/- Chapter 04: what the plain programs compute, second part: the edges one by one; connected machines. -/
import Derived.Test.YtohjnbajgbdhhaaSpec04a
namespace Go.Proofs.Ytohjnbajgbdhhaa
namespace GV
set_option linter.unusedVariables false
set_option maxRecDepth 100000

theorem edgeAt_place {m : Mach} {k i : Nat} (hi : i < m.inputs.toNat) : edgeAt m (k * m.inputs.toNat + i) = (m.rows.getD k default).getD i default := by
  unfold edgeAt; rw [div_place hi, mod_place hi]
/-- The places of a valid machine, handed on one by one. -/
theorem edges_fold {N : Nat} {m : Mach} (hm : MOk m) (hN : 200 ≤ N) {σ : Type} (B : ((Int × Int) × Edge) → σ → Option (Bool × σ)) (f : Nat → σ)
    (hB : ∀ k i, k < m.rows.length → i < m.inputs.toNat → B (((k : Int), (i : Int)), (m.rows.getD k default).getD i default) (f (k * m.inputs.toNat + i)) = some (true, f (k * m.inputs.toNat + i + 1))) :
    machines_edges_1 N m σ B (f 0) = some (f (m.rows.length * m.inputs.toNat)) := by
  have hr := hm.r2; have hi1 := hm.i1; have hi2 := hm.i2
  unfold machines_edges_1
  refine loop_eq (fun F k s => machines_edges_1_L1 N σ B m F s (k : Int)) m.rows.length (fun k s => s = f (k * m.inputs.toNat)) _ (fun F k s hk hi => .inr ?_) (fun F s hi => ?_) N 0 (f 0) (Nat.zero_le _) (by omega) (by simp)
  · subst hi
    refine ⟨f ((k + 1) * m.inputs.toNat), rfl, ?_⟩
    have hlen : ((ix m.rows (k : Int)).length : Int) = m.inputs := hm.row k hk
    have hL : machines_edges_1_L2 N σ B m (k : Int) N (f (k * m.inputs.toNat)) 0 = some (Ex.go (f ((k + 1) * m.inputs.toNat))) := by
      refine loop_eq (fun F i s => machines_edges_1_L2 N σ B m (k : Int) F s (i : Int)) m.inputs.toNat (fun i s => s = f (k * m.inputs.toNat + i)) _ (fun F i s hi hs => .inr ?_) (fun F s hs => ?_) N 0 _ (Nat.zero_le _) (by omega) (by simp)
      · subst hs
        refine ⟨_, rfl, ?_⟩
        simp only [machines_edges_1_L2]
        rw [cd_t (by omega), gd_pos (okI_nat (by omega))]
        refine Eq.trans (bd_pos (hB k i hk hi)) ?_
        refine Eq.trans (cf rfl) ?_
        rw [gd_pos (in64_of (by omega))]; rfl
      · subst hs
        simp only [machines_edges_1_L2]
        rw [cd_f (by omega), Nat.succ_mul]
    simp only [machines_edges_1_L1]
    rw [cd_t (by omega), gd_pos (okI_nat hk), bd_pos hL, on_g, gd_pos (in64_of (by omega))]; rfl
  · subst hi
    simp only [machines_edges_1_L1]
    rw [cd_f (by omega)]
theorem undef_eq {N : Nat} {m : Mach} (hm : MOk m) (hN : 200 ≤ N) : machines_undefined N m = some (undefL m) := by
  unfold machines_undefined
  rw [show machines_edges N m = some m from rfl, bd_s]
  have hmul := hm.mul.1
  have h := edges_fold hm hN (fun (y20 : (Int × Int) × Edge) (x21 : List (Int × Int)) =>
    bd (machines_none N) fun y44 =>
    bif decide (y20.2.to = y44.to ∧ y20.2.out = y44.out) then (
    gd (fits 16 x21 ([((y20.1.1, y20.1.2) : (Int × Int))] : List (Int × Int))) <|
    some (true, (x21 ++ ([((y20.1.1, y20.1.2) : (Int × Int))] : List (Int × Int))))) else (
    some (true, x21))) (undefK m) (fun k i hk hi => by
      have hlt := place_lt hk hi
      have hle := undefK_le m (k * m.inputs.toNat + i)
      rw [show machines_none N = some ⟨-1, -1⟩ from rfl, bd_s, undefK_succ, edgeAt_place hi, div_place hi, mod_place hi]
      by_cases he : ((m.rows.getD k default).getD i default).to = -1 ∧ ((m.rows.getD k default).getD i default).out = -1
      · rw [cd_t he, if_pos he, gd_pos ⟨by simp; omega, by simp; omega⟩]
      · rw [cd_f he, if_neg he, List.append_nil])
  rw [undefK_zero] at h
  rw [bd_pos h]
  unfold slices_Clip__2_int
  rw [gd_pos (okS_all _), bd_s, cut_all]; rfl
theorem complete_eq {N : Nat} {m : Mach} (hs : Small m) (hN : 200 ≤ N) : machines_Complete N m = some (complR m, checkM m) := by
  unfold machines_Complete complR
  rw [bd_pos (check_eq hs hN)]
  by_cases h : checkM m ≠ 0
  · rw [cd_t h, if_pos h]
  · rw [cd_f h, if_neg h]
    have hm : MOk m := (checkM_iff m).1 (by simpa using h)
    rw [bd_pos (undef_eq hm hN), show checkM m = 0 by simpa using h]
theorem trans_eq {N : Nat} {m : Mach} (hs : Small m) (hN : 200 ≤ N) : machines_Transitions N m = some (traR m, checkM m) := by
  unfold machines_Transitions traR
  rw [bd_pos (check_eq hs hN)]
  by_cases h : checkM m ≠ 0
  · rw [cd_t h, if_pos h]
  · rw [cd_f h, if_neg h]
    have hm : MOk m := (checkM_iff m).1 (by simpa using h)
    have hmul := hm.mul
    have hle := undefK_le m (m.rows.length * m.inputs.toNat)
    have hle' : (undefL m).length ≤ m.rows.length * m.inputs.toNat := hle
    rw [gd_pos (in64_of (by rw [hmul.2]; omega)), bd_pos (undef_eq hm hN), gd_pos (in64_of (by rw [hmul.2]; omega)), show checkM m = 0 by simpa using h]
theorem undefined_eq {N : Nat} {m : Mach} (hs : Small m) (hN : 200 ≤ N) : machines_Undefined N m = some (undR m, checkM m) := by
  unfold machines_Undefined undR
  rw [bd_pos (check_eq hs hN)]
  by_cases h : checkM m ≠ 0
  · rw [cd_t h, if_pos h]
  · rw [cd_f h, if_neg h]
    have hm : MOk m := (checkM_iff m).1 (by simpa using h)
    rw [bd_pos (undef_eq hm hN), show checkM m = 0 by simpa using h]
theorem indexB {N : Nat} {s : List Bool} (hN : s.length < N) (hl : s.length ≤ 4611686018427387904) : slices_Index_bool N s false = some (idxF (fun x => decide (false = x)) s) := by
  have h : slices_Index_bool_L1 N s false N 0 = some (if (s.any fun x => decide (false = x)) = true then Ex.rt (idxF (fun x => decide (false = x)) s) else Ex.go ()) := by
    refine loop_eq (σ := Unit) (fun F k _ => slices_Index_bool_L1 N s false F (k : Int)) s.length (fun k _ => ((s.take k).any fun x => decide (false = x)) = false) _ (fun F k _ hk hi => ?_) (fun F _ hi => ?_) N 0 () (Nat.zero_le _) (by omega) (by simp)
    · simp only [slices_Index_bool_L1]
      rw [cd_t (by omega), gd_pos (okI_nat hk), ix_nat]
      cases hp : decide (false = s.getD k default)
      · right
        refine ⟨(), by rw [take_any (fun x => decide (false = x)) s k hk, hi, hp]; rfl, ?_⟩
        rw [cf rfl, gd_pos (in64_of (by omega))]; rfl
      · left
        rw [ct rfl, if_pos (List.any_eq_true.2 ⟨_, getD_mem hk, hp⟩), idxF_found (fun x => decide (false = x)) s k hk hi hp]
    · simp only [slices_Index_bool_L1]
      rw [cd_f (by omega), if_neg (by rw [List.take_length] at hi; rw [hi]; decide)]
  unfold slices_Index_bool
  rw [bd_pos h]
  by_cases ha : (s.any fun x => decide (false = x)) = true
  · rw [if_pos ha]; rfl
  · rw [if_neg ha, idxF_none (fun x => decide (false = x)) s (by simpa using ha)]; rfl
theorem containsB {N : Nat} {s : List Bool} (hN : s.length < N) (hl : s.length ≤ 4611686018427387904) : slices_Contains_bool N s false = some (s.contains false) := by
  unfold slices_Contains_bool
  rw [bd_pos (indexB hN hl), idxF_ge, any_contains]
/-- The walk through a machine: what has been seen behind it. -/
theorem visit_eq {N : Nat} {m : Mach} (hm : MOk m) (hN : 200 ≤ N) : ∀ (F : Nat) (X : List Bool) (s : Int), X.length = m.rows.length → SOk m s → X.count false < F → ∃ Y, machines_Connected_1 N F s X m = some Y ∧ Vis m X s Y
  | 0, X, s, _, _, h => by omega
  | F + 1, X, s, hl, hs, hF => by
    simp only [machines_Connected_1]
    by_cases hd : s = -1 ∨ X.getD s.toNat default = true
    · refine ⟨X, ?_, vis_none hd (by rcases hs with h | h; exact .inl h; exact .inr h.1)⟩
      rcases hs with h | h
      · rw [gd_pos (by rw [decide_eq_true h]; intro e; cases e), ct (by rw [decide_eq_true h]; rfl)]
      · have hne : ¬ s = -1 := by omega
        have hx : X.getD s.toNat default = true := hd.resolve_left hne
        rw [gd_pos (fun _ => ⟨h.1, by omega⟩), ct (by rw [ix_int, hx]; simp)]
    · have hne : ¬ s = -1 := fun e => hd (.inl e)
      have h0 : 0 ≤ s ∧ s < m.rows.length := hs.resolve_left hne
      have hx : X.getD s.toNat default = false := by
        cases e : X.getD s.toNat default
        · rfl
        · exact absurd (.inr e) hd
      have hlt : s.toNat < X.length := by omega
      have hr := hm.r2; have hi2 := hm.i2
      have hrow := hm.row s.toNat (by omega)
      have hcnt := count_setB hlt hx
      rw [gd_pos (fun _ => ⟨h0.1, by omega⟩), cf (by rw [ix_int, hx, decide_eq_false hne]; rfl), gd_pos ⟨h0.1, by omega⟩, gd_pos h0]
      refine loop_gen (fun G k Y => machines_Connected_1_L1 N (machines_Connected_1 N F) s m G (k : Int) Y) (m.rows.getD s.toNat default).length (fun k Y => VisK m X s.toNat k Y ∧ Y.length = m.rows.length) (fun Y => Vis m X s Y)
        (fun G k Y hk hi => .inr ?_) (fun G Y hi => ?_) N 0 (up X s true) (Nat.zero_le _) (by omega) ⟨visK_zero hlt hx, by simp [up, hl]⟩
      · simp only [machines_Connected_1_L1]
        have hk2 : k < (ix m.rows s).length := hk
        rw [cd_t (by omega), gd_pos (okI_nat hk2)]
        obtain ⟨Z, hZ, hvz⟩ := visit_eq hm hN F Y ((m.rows.getD s.toNat default).getD k default).to hi.2 (nextS hm s k (by omega) hk) (by
          have := hi.1.cnt
          omega)
        refine ⟨Z, ⟨visK_succ hi.1 (by omega) hk hvz, by rw [hvz.len]; exact hi.2⟩, Eq.trans (bd_pos hZ) ?_⟩
        rw [gd_pos (in64_of (by omega))]; rfl
      · simp only [machines_Connected_1_L1]
        have e : (ix m.rows s).length = (m.rows.getD s.toNat default).length := rfl
        rw [cd_f (by omega)]
        exact ⟨Y, rfl, visK_end h0.1 hi.1 (Nat.lt_irrefl _)⟩
theorem connected_eq {N : Nat} {m : Mach} (hs : Small m) (hN : 200 ≤ N) : machines_Connected N m = some ((if checkM m ≠ 0 then false else connB m), checkM m) := by
  unfold machines_Connected
  rw [bd_pos (check_eq hs hN)]
  by_cases h : checkM m ≠ 0
  · rw [cd_t h, if_pos h]
  · rw [cd_f h, if_neg h]
    have hm : MOk m := (checkM_iff m).1 (by simpa using h)
    have hr := hm.r2; have hr1 := hm.r1
    obtain ⟨Y, hY, hv⟩ := visit_eq hm hN N (List.replicate m.rows.length false) 0 (by simp) (.inr ⟨by omega, by omega⟩) (by simp; omega)
    have hly : Y.length = m.rows.length := by rw [hv.len]; simp
    rw [gd_pos ⟨by omega, by omega, by omega⟩, mk_nat, bd_pos hY, bd_pos (containsB (by omega) (by omega)), ← vis_conn hm rfl hv, show checkM m = 0 by simpa using h]
end GV
end Go.Proofs.Ytohjnbajgbdhhaa
