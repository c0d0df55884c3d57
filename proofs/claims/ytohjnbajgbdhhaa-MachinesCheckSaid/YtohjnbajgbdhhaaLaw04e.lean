/- Chapter 04: the laws of the plain programs, fourth part: an edge changed in new memory. -/
import Derived.Test.YtohjnbajgbdhhaaLaw04d
namespace Go.Proofs.Ytohjnbajgbdhhaa
namespace GV
set_option linter.unusedVariables false
set_option maxRecDepth 100000

theorem copy_eq {N : Nat} {m : Mach} (hs : Small m) (hN : 200 ≤ N) : gauntletref04_Copy N m = some m := by
  have hr := hs.r
  unfold gauntletref04_Copy
  refine Eq.trans (bd_pos (x := m.rows) ?_) rfl
  refine loop_eq (fun F k acc => gauntletref04_Copy_L1 N m F (k : Int) acc) m.rows.length (fun k acc => acc = m.rows.take k) _ (fun F k acc hk hacc => .inr ?_) (fun F acc hacc => ?_) N 0 [] (Nat.zero_le _) (by omega) (by simp)
  · subst hacc
    refine ⟨_, rfl, ?_⟩
    have hc : (ix m.rows (k : Int)).length ≤ 100 := hs.c k hk
    simp only [gauntletref04_Copy_L1]
    rw [cd_t (by omega), gd_pos (okI_nat hk), gd_pos ⟨by simp; omega, by simp; omega⟩, gd_pos ⟨by simp; omega, by simp; omega⟩, gd_pos (in64_of (by omega)), List.nil_append, ix_nat, List.take_succ_eq_append_getElem hk]
    simp [List.getD_eq_getElem?_getD, hk]
  · subst hacc
    simp only [gauntletref04_Copy_L1]
    rw [cd_f (by omega), List.take_length]
theorem copyo_eq {N : Nat} {m : Mach} (hs : Small m) (hN : 200 ≤ N) : gauntletref04_Copy_o N m = some m := by
  have hr := hs.r
  unfold gauntletref04_Copy_o
  refine Eq.trans (bd_pos (x := m.rows) ?_) rfl
  refine loop_eq (fun F k acc => gauntletref04_Copy_o_L1 N m F (k : Int) acc) m.rows.length (fun k acc => acc = m.rows.take k) _ (fun F k acc hk hacc => .inr ?_) (fun F acc hacc => ?_) N 0 [] (Nat.zero_le _) (by omega) (by simp)
  · subst hacc
    refine ⟨_, rfl, ?_⟩
    have hc : (ix m.rows (k : Int)).length ≤ 100 := hs.c k hk
    simp only [gauntletref04_Copy_o_L1]
    rw [cd_t (by omega), gd_pos (okI_nat hk), gd_pos ⟨by simp; omega, by simp; omega⟩, gd_pos ⟨by simp; omega, by simp; omega⟩, gd_pos (in64_of (by omega)), List.nil_append, ix_nat, List.take_succ_eq_append_getElem hk]
    simp [List.getD_eq_getElem?_getD, hk]
  · subst hacc
    simp only [gauntletref04_Copy_o_L1]
    rw [cd_f (by omega), List.take_length]
theorem getD_setL {α : Type} {X : List α} {i j : Nat} {y d : α} (hi : i < X.length) : (X.set i y).getD j d = if j = i then y else X.getD j d := getD_set_nat hi
section set
variable {m : Mach} {s i : Int} {x : Edge}
theorem setM_len : (setM m s i x).rows.length = m.rows.length := List.length_set
theorem setM_row (hs : 0 ≤ s ∧ s < m.rows.length) (k : Nat) : (setM m s i x).rows.getD k default = if k = s.toNat then (m.rows.getD s.toNat default).set i.toNat x else m.rows.getD k default := getD_setL (by omega)
theorem setM_rowlen (hs : 0 ≤ s ∧ s < m.rows.length) (k : Nat) : ((setM m s i x).rows.getD k default).length = (m.rows.getD k default).length := by
  rw [setM_row hs]
  by_cases e : k = s.toNat
  · rw [if_pos e, List.length_set, e]
  · rw [if_neg e]
theorem setM_small (hm : MOk m) (hs : 0 ≤ s ∧ s < m.rows.length) : Small (setM m s i x) :=
  ⟨by rw [setM_len]; exact hm.small.r, fun k hk => by rw [setM_rowlen hs]; exact hm.small.c k (by rw [setM_len] at hk; exact hk)⟩
theorem setM_fits (y : Edge) : fitsB (setM m s i x) y = fitsB m y := by unfold fitsB; rw [setM_len]; rfl
theorem setM_ok (hm : MOk m) (hs : 0 ≤ s ∧ s < m.rows.length) (hi : 0 ≤ i ∧ i < m.inputs) : MOk (setM m s i x) ↔ fitsB m x = true := by
  have hrow := hm.row s.toNat (by omega)
  constructor
  · intro h
    have h1 := h.edge s.toNat i.toNat (by rw [setM_len]; omega) (by rw [setM_rowlen hs]; omega)
    rw [setM_row hs, if_pos rfl, getD_setL (by omega), if_pos rfl] at h1
    rw [← setM_fits (m := m) (s := s) (i := i) (x := x)]
    exact (fitsB_iff _ _).2 h1
  · intro h
    refine ⟨hm.i1, hm.i2, hm.o1, hm.o2, by rw [setM_len]; exact hm.r1, by rw [setM_len]; exact hm.r2, fun k hk => ?_, fun k j hk hj => ?_⟩
    · rw [setM_rowlen hs]; exact hm.row k (by rw [setM_len] at hk; exact hk)
    · rw [setM_rowlen hs] at hj
      rw [setM_len] at hk
      refine (fitsB_iff _ _).1 ?_
      rw [setM_fits, setM_row hs]
      by_cases e : k = s.toNat
      · subst e
        rw [if_pos rfl, getD_setL (by omega)]
        by_cases e2 : j = i.toNat
        · rw [if_pos e2]; exact h
        · rw [if_neg e2]; exact (fitsB_iff _ _).2 (hm.edge _ j hk hj)
      · rw [if_neg e]; exact (fitsB_iff _ _).2 (hm.edge k j hk hj)
theorem setM_check (hm : MOk m) (hs : 0 ≤ s ∧ s < m.rows.length) (hi : 0 ≤ i ∧ i < m.inputs) : checkM (setM m s i x) = if fitsB m x = true then 0 else 1 := by
  by_cases h : fitsB m x = true
  · rw [if_pos h]; exact (checkM_iff _).2 ((setM_ok hm hs hi).2 h)
  · rw [if_neg h]
    have h0 : checkM (setM m s i x) ≠ 0 := fun e => h ((setM_ok hm hs hi).1 ((checkM_iff _).1 e))
    have h3 : checkM (setM m s i x) ≠ 3 := by
      unfold checkM
      rw [if_neg]
      · split <;> (try split) <;> decide
      · rw [setM_len]
        have := hm.i2; have := hm.o2; have := hm.r2
        show ¬ ((16 < m.inputs ∨ 16 < m.outputs) ∨ 64 < m.rows.length)
        omega
    rcases checkM_vals (setM m s i x) with h | h | h
    · exact absurd h h3
    · exact h
    · exact absurd h h0
theorem setM_with (hm : MOk m) (hs : 0 ≤ s ∧ s < m.rows.length) (hi : 0 ≤ i ∧ i < m.inputs) : withC m s i x = checkM (setM m s i x) := by
  rw [setM_check hm hs hi]
  unfold withC
  rw [if_neg (by rw [stateM_ok hm hs]; simp)]
  cases h : fitsB m x
  · rw [if_pos (.inr rfl), if_neg (by decide)]
  · rw [if_neg (fun h => h.elim (by omega) (fun h => by cases h)), if_pos rfl]
theorem setM_eq (hm : MOk m) (hs : 0 ≤ s ∧ s < m.rows.length) (hi : 0 ≤ i ∧ i < m.inputs) : setM m s i x = m ↔ ((m.rows.getD s.toNat default).getD i.toNat default = x) := by
  have hrow := hm.row s.toNat (by omega)
  constructor
  · intro h
    have h1 : ((setM m s i x).rows.getD s.toNat default).getD i.toNat default = (m.rows.getD s.toNat default).getD i.toNat default := congrArg (fun q : Mach => (q.rows.getD s.toNat default).getD i.toNat default) h
    rw [setM_row hs, if_pos rfl, getD_setL (by omega), if_pos rfl] at h1
    exact h1.symm
  · intro h
    refine mach_eq.2 ⟨rfl, rfl, ext_getD setM_len fun k hk => ?_⟩
    rw [setM_row hs]
    by_cases e : k = s.toNat
    · rw [if_pos e]
      subst e
      refine ext_getD (by rw [List.length_set]) fun j hj => ?_
      rw [getD_setL (by omega)]
      by_cases e2 : j = i.toNat
      · rw [if_pos e2, e2]; exact h.symm
      · rw [if_neg e2]
    · rw [if_neg e]
end set
theorem with_law {x : MDat} {p : Int × Int} {e : Edge} (hx : MDOk x) (hp1 : 0 ≤ p.1 ∧ p.1 ≤ 255) (hp2 : 0 ≤ p.2 ∧ p.2 ≤ 255) : gauntletlaw04_MachinesWith 2000 x p e = some true := by
  have hok := mOf_ok hx
  have hsm := mOf_small hx
  have hr1 := hok.r1
  have hr2 := hok.r2
  have hi1 := hok.i1
  have hi2 := hok.i2
  unfold gauntletlaw04_MachinesWith
  rw [bd_pos (mof_eq hx (by decide))]
  simp only [mach_eta]
  generalize hm : mOf x = m at *
  rw [bd_pos (copy_eq hsm (by decide)), gd_pos (in64_of (by omega)), gd_pos ⟨hp1.1, by omega⟩, gd_pos (in64_of (by omega)), gd_pos ⟨hp2.1, by omega⟩]
  have hs : 0 ≤ p.1 % (m.rows.length : Int) ∧ p.1 % (m.rows.length : Int) < m.rows.length := ⟨Int.emod_nonneg _ (by omega), Int.emod_lt_of_pos _ (by omega)⟩
  have hi : 0 ≤ p.2 % m.inputs ∧ p.2 % m.inputs < m.inputs := ⟨Int.emod_nonneg _ (by omega), Int.emod_lt_of_pos _ (by omega)⟩
  generalize p.1 % (m.rows.length : Int) = s at *
  generalize p.2 % m.inputs = i at *
  have hrow := hok.row s.toNat (by omega)
  have hgi : okI (ix m.rows s) i := ⟨hi.1, by rw [ix_int, hrow]; exact hi.2⟩
  rw [bd_pos (Witho_eq hsm (by decide)), bd_pos (copyo_eq hsm (by decide)), gd_pos hs, gd_pos hgi]
  have hset : (⟨m.inputs, m.outputs, up m.rows s (up (ix m.rows s) i e)⟩ : Mach) = setM m s i e := rfl
  simp only [hset]
  have hss : Small (setM m s i e) := setM_small hok hs
  rw [bd_pos (rsame_eq hsm (by decide)), bd_gop (fun _ => rcheck_eq hss (by decide)), setM_with hok hs hi]
  refine Eq.trans (cf (by simp)) ?_
  by_cases hc : checkM (setM m s i e) ≠ 0
  · have hR : withR m s i e = ⟨0, 0, []⟩ := by unfold withR; rw [setM_with hok hs hi, if_pos hc]
    rw [cd_t hc, hR, bd_gop (fun _ => lives_eq)]; rfl
  · have hR : withR m s i e = setM m s i e := by unfold withR; rw [setM_with hok hs hi, if_neg hc]
    have hc0 : checkM (setM m s i e) = 0 := by simpa using hc
    have hso : MOk (setM m s i e) := (checkM_iff _).1 hc0
    have hsm' : ∀ a b : Mach, MOk a → sameR a b = decide (a = b) := fun a b ha => by
      cases e : sameR a b
      · rw [eq_comm, decide_eq_false_iff_not]; intro he; have := (sameR_iff a b).2 ⟨ha, he⟩; rw [e] at this; cases this
      · rw [eq_comm, decide_eq_true_eq]; exact ((sameR_iff a b).1 e).2
    rw [cd_f hc, hR]
    have hiff := setM_eq (x := e) hok hs hi
    have hd1 : decide (setM m s i e = m) = decide ((ix (ix m.rows s) i).to = e.to ∧ (ix (ix m.rows s) i).out = e.out) := by
      by_cases h : (m.rows.getD s.toNat default).getD i.toNat default = e
      · rw [decide_eq_true (hiff.2 h)]
        exact (decide_eq_true (show _ ∧ _ from ⟨congrArg Edge.to h, congrArg Edge.out h⟩)).symm
      · rw [decide_eq_false (fun h' => h (hiff.1 h'))]
        exact (decide_eq_false (fun h' => h (edge_ext h'))).symm
    have hd2 : decide (m = setM m s i e) = decide ((ix (ix m.rows s) i).to = e.to ∧ (ix (ix m.rows s) i).out = e.out) := by
      rw [← hd1]
      by_cases h : setM m s i e = m
      · rw [decide_eq_true h, decide_eq_true h.symm]
      · rw [decide_eq_false h, decide_eq_false (fun h' => h h'.symm)]
    rw [bd_pos (rsame_eq hss (by decide)), bd_gop (fun _ => msame_eq hss hsm (by decide)), gd_pos (fun _ => hs), gd_pos (fun _ => hgi), bd_gop (fun _ => msame_eq hsm hss (by decide)), gd_pos (fun _ => hs), gd_pos (fun _ => hgi), hsm' _ _ hso, hsm' _ _ hok, hd1, hd2]
    refine Eq.trans (cf (by simp)) ?_
    have hL : gauntletlaw04_MachinesWith_L1 2000 2000 0 (setM m s i e).rows = some () := by
      have hl := setM_len (m := m) (s := s) (i := i) (x := e)
      refine loop_eq (fun F k X => gauntletlaw04_MachinesWith_L1 2000 F (k : Int) X) m.rows.length (fun k X => X.length = m.rows.length ∧ ∀ j, j < m.rows.length → 0 < (X.getD j default).length) _ (fun F k X hk hX => .inr ?_) (fun F X hX => ?_) 2000 0 _ (Nat.zero_le _) (by omega) ⟨hl, fun j hj => by rw [setM_rowlen hs]; have := hok.row j hj; omega⟩
      · have h0 := hX.2 k hk
        refine ⟨X.set k ((X.getD k default).set 0 ⟨0, 0⟩), ⟨by rw [List.length_set]; exact hX.1, fun j hj => ?_⟩, ?_⟩
        · rw [getD_setL (by omega)]
          by_cases e : j = k
          · rw [if_pos e, List.length_set]; exact h0
          · rw [if_neg e]; exact hX.2 j hj
        · simp only [gauntletlaw04_MachinesWith_L1]
          rw [cd_t (by omega), gd_pos (okI_nat (by omega)), show gauntletlaw04_edge 2000 0 0 = some ⟨0, 0⟩ from rfl, bd_s, gd_pos (show okI (ix X (k : Int)) 0 from okI_nat (k := 0) h0), gd_pos (in64_of (by omega))]; rfl
      · simp only [gauntletlaw04_MachinesWith_L1]
        rw [cd_f (by omega)]
    rw [bd_pos hL, bd_pos (rsame_eq hsm (by decide)), bd_gop (fun _ => lives_eq)]
    simp
end GV
end Go.Proofs.Ytohjnbajgbdhhaa
