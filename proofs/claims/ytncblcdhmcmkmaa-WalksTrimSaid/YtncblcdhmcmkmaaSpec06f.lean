/- Chapter 06: the reference's part, Trim; the law Trim. -/
import Derived.Test.YtncblcdhmcmkmaaPart06
namespace Go.Proofs.Ytncblcdhmcmkmaa
namespace GV
set_option linter.unusedVariables false
set_option maxRecDepth 100000

theorem rpart_eq {N : Nat} {m : Mach} {L : List Nat} (hm : MOk m) (hc : ClosedP m L) (hN : 200 ≤ N) : gauntletref06_Part N m (castL L) = some (partM m L) := by
  have hlen := hc.len
  have hr2 := hm.r2
  have hi1 := hm.i1
  have hi2 := hm.i2
  have hmem : ∀ k, k < L.length → L.getD k 0 ∈ L := fun k hk => by simp [List.getD_eq_getElem?_getD, hk]
  unfold gauntletref06_Part
  -- where a state stands
  have hL3 : ∀ k i, k < L.length → i < m.inputs.toNat → gauntletref06_Part_L3 N m (castL L) (k : Int) (i : Int) N (-1) 0 = some (pos L (ed m (L.getD k 0) i)) := fun k i hk hi => by
    have hx := hc.rng _ (hmem k hk)
    have hrw : ix m.rows ((L.getD k 0 : Nat) : Int) = m.rows.getD (L.getD k 0) default := ix_nat _ _
    have hed : (ix (m.rows.getD (L.getD k 0) default) (i : Int)).to = ed m (L.getD k 0) i := by rw [ix_nat]; rfl
    have hpos := pos_ok hm hc (hmem k hk) hi
    generalize ed m (L.getD k 0) i = t at *
    refine loop_eq (σ := Int) (fun F j st => gauntletref06_Part_L3 N m (castL L) (k : Int) (i : Int) F st (j : Int)) L.length (fun j st => st = if t ≠ -1 ∧ pos L t < (j : Int) then pos L t else -1) _ (fun F j st hj hst => ?_) (fun F st hst => ?_) N 0 _ (Nat.zero_le _) (by omega) (by
      rw [if_neg]; rintro ⟨h1, h2⟩; rcases hpos with ⟨_, h3⟩ | ⟨h3, _⟩ <;> omega)
    · subst hst
      right
      refine ⟨_, rfl, ?_⟩
      simp only [gauntletref06_Part_L3, castL_get hk, castL_get hj, hrw, hed]
      rw [cd_t (by rw [castL_len]; omega)]
      refine (bd_pos (x := if t ≠ -1 ∧ pos L t < ((j + 1 : Nat) : Int) then pos L t else -1) ?_).trans (gd_pos (in64_of (by omega)))
      rw [gd_pos (okI_nat (by rw [castL_len]; exact hj))]
      by_cases he : ((L.getD j 0 : Nat) : Int) = t
      · rw [cd_t he]
        have hp : pos L t = (j : Int) := by
          rw [← he]; unfold pos
          rw [if_neg (by omega), Int.toNat_natCast, idx_getD hc.nd hj]
        rw [hp, if_pos ⟨by omega, by omega⟩]
      · rw [cd_f he]
        congr 1
        by_cases ht : t = -1
        · rw [if_neg (fun h => h.1 ht), if_neg (fun h => h.1 ht)]
        · rcases hpos with ⟨_, h⟩ | ⟨h1, h2, h3, h4⟩
          · exact absurd h ht
          · have hne : pos L t ≠ (j : Int) := fun e => he (by rw [e, Int.toNat_natCast] at h4; omega)
            by_cases hlt : pos L t < (j : Int)
            · rw [if_pos ⟨ht, hlt⟩, if_pos ⟨ht, by omega⟩]
            · rw [if_neg (fun h => hlt h.2), if_neg (fun h => by have := h.2; omega)]
    · subst hst
      simp only [gauntletref06_Part_L3]
      rw [cd_f (by rw [castL_len]; omega)]
      congr 1
      rcases hpos with ⟨h1, h2⟩ | ⟨h1, h2, h3, _⟩
      · rw [if_neg (fun h => h.1 h2), h1]
      · rw [if_pos ⟨by omega, h2⟩]
  have hL2 : ∀ k, k < L.length → gauntletref06_Part_L2 N m (castL L) (k : Int) N [] 0 = some (rowP m L (L.getD k 0)) := fun k hk => by
    have hx := hc.rng _ (hmem k hk)
    have hmr := hm.row _ hx
    have hrl := rowP_len (L := L) hm hx
    have hrw : ix m.rows ((L.getD k 0 : Nat) : Int) = m.rows.getD (L.getD k 0) default := ix_nat _ _
    refine loop_eq (σ := List Edge) (fun F i st => gauntletref06_Part_L2 N m (castL L) (k : Int) F st (i : Int)) m.inputs.toNat (fun i st => st = (rowP m L (L.getD k 0)).take i) _ (fun F i st hi hst => ?_) (fun F st hst => ?_) N 0 _ (Nat.zero_le _) (by omega) (by simp)
    · subst hst
      right
      refine ⟨_, rfl, ?_⟩
      simp only [gauntletref06_Part_L2, castL_get hk, hrw]
      rw [cd_t (by omega), gd_pos (okI_nat (by rw [castL_len]; exact hk)), gd_pos (okI_nat hx), gd_pos (okI_nat (by omega)), bd_pos (hL3 k i hk hi)]
      have hfit : fits 16 ((rowP m L (L.getD k 0)).take i) ([(⟨pos L (ed m (L.getD k 0) i), (ix (m.rows.getD (L.getD k 0) default) (i : Int)).out⟩ : Edge)] : List Edge) := by
        have : ((rowP m L (L.getD k 0)).take i).length ≤ 16 := by rw [List.length_take]; omega
        exact ⟨by simp only [List.length_singleton]; omega, by simp only [List.length_singleton]; omega⟩
      rw [gd_pos hfit, gd_pos (in64_of (by omega)), take_snocG _ _ (show i < (rowP m L (L.getD k 0)).length by omega), rowP_get hm hx hi, ix_nat]; rfl
    · subst hst
      simp only [gauntletref06_Part_L2]
      rw [cd_f (by omega), ← hrl, List.take_length]
  have hL1 : gauntletref06_Part_L1 N m (castL L) N 0 [] = some (L.map (rowP m L)) := by
    have hml : (L.map (rowP m L)).length = L.length := by simp
    refine loop_eq (σ := List (List Edge)) (fun F k st => gauntletref06_Part_L1 N m (castL L) F (k : Int) st) L.length (fun k st => st = (L.map (rowP m L)).take k) _ (fun F k st hk hst => ?_) (fun F st hst => ?_) N 0 _ (Nat.zero_le _) (by omega) (by simp)
    · subst hst
      right
      refine ⟨_, rfl, ?_⟩
      simp only [gauntletref06_Part_L1]
      rw [cd_t (by rw [castL_len]; omega), bd_pos (hL2 k hk)]
      have hfit : fits 24 ((L.map (rowP m L)).take k) ([rowP m L (L.getD k 0)] : List (List Edge)) := by
        have : ((L.map (rowP m L)).take k).length ≤ 64 := by rw [List.length_take]; omega
        exact ⟨by simp only [List.length_singleton]; omega, by simp only [List.length_singleton]; omega⟩
      rw [gd_pos hfit, gd_pos (in64_of (by omega)), take_snocG _ _ (show k < (L.map (rowP m L)).length by omega)]
      have : (L.map (rowP m L)).getD k default = rowP m L (L.getD k 0) := by simp [List.getD_eq_getElem?_getD, hk]
      rw [this]; rfl
    · subst hst
      simp only [gauntletref06_Part_L1]
      rw [cd_f (by rw [castL_len]; omega), ← hml, List.take_length]
  rw [bd_pos hL1]; rfl
theorem machine_eq {N : Nat} {m : Mach} (hs : Small m) (hN : 200 ≤ N) : gauntletlaw06_machine N m 0 m = some true := by
  have hr := hs.r
  unfold gauntletlaw06_machine
  rw [bd_gop (fun _ => rsame_eq hs hN)]
  have hL : gauntletlaw06_machine_L1 N m N 0 = some (.go ()) := by
    refine loop_eq (σ := Unit) (fun F k _ => gauntletlaw06_machine_L1 N m F (k : Int)) m.rows.length (fun _ _ => True) _ (fun F k _ hk _ => ?_) (fun F _ _ => ?_) N 0 () (Nat.zero_le _) (by omega) trivial
    · right
      refine ⟨(), trivial, ?_⟩
      simp only [gauntletlaw06_machine_L1]
      rw [cd_t (by omega), gd_pos (okI_nat hk), gd_pos (okI_nat hk), cd_f (by simp)]
      exact gd_pos (in64_of (by omega))
    · simp only [gauntletlaw06_machine_L1]
      rw [cd_f (by omega)]
  refine (cf (by simp)).trans ?_
  rw [bd_pos hL]; rfl
def ascN (n : Nat) (P : List BE) : List Nat := (List.range n).filter fun s => occ P s
theorem ascN_mem {n : Nat} {P : List BE} {s : Nat} : s ∈ ascN n P ↔ s < n ∧ occ P s = true := by
  unfold ascN; rw [List.mem_filter, List.mem_range]
theorem ascN_closed {m : Mach} (hm : MOk m) {P : List BE} (hP : Rch m 0 P) : ClosedP m (ascN m.rows.length P) := by
  refine ⟨fun s hs => (ascN_mem.1 hs).1, List.Pairwise.filter _ List.nodup_range, fun s hs i hi hne => ?_, fun e => ?_⟩
  · obtain ⟨h1, h2⟩ := ascN_mem.1 hs
    obtain ⟨q, hq, rfl⟩ := occ_iff.1 h2
    obtain ⟨j, hj, hst, _⟩ := hP.cls q i hq hi hne
    exact ascN_mem.2 ⟨by have := hP.rng j hj; omega, occ_iff.2 ⟨j, hj, by omega⟩⟩
  · have : 0 ∈ ascN m.rows.length P := ascN_mem.2 ⟨by have := hm.r1; omega, occ_iff.2 ⟨0, hP.pos, by rw [hP.root]⟩⟩
    rw [e] at this; cases this
theorem ascN_zero {m : Mach} (hm : MOk m) {P : List BE} (hP : Rch m 0 P) : pos (ascN m.rows.length P) 0 = 0 := by
  have h0 : occ P 0 = true := occ_iff.2 ⟨0, hP.pos, by rw [hP.root]⟩
  obtain ⟨n, hn⟩ : ∃ n, m.rows.length = n + 1 := ⟨m.rows.length - 1, by have := hm.r1; omega⟩
  unfold pos ascN
  rw [hn, List.range_succ_eq_map, List.filter_cons, if_pos h0]
  simp
theorem trim_eq {N : Nat} {m : Mach} (hm : MOk m) (hN : 200 ≤ N) : walks_Trim N m = some (partM m (ascN m.rows.length (rch m 0)), castL (ascN m.rows.length (rch m 0)), 0) := by
  have hP := rch_ok hm (s0 := 0) (by have := hm.r1; omega)
  unfold walks_Trim
  rw [bd_pos (reach_eq hm hN), cd_f (by simp), sort_asc hP]
  rw [bd_pos (show walks_part N m (ascL m.rows.length (rch m 0)) = _ from part_eq hm (ascN_closed hm hP) hN)]
  rfl
/-- Whatever a machine has been cut down to its reached states has: each state is reached. -/
theorem trim_conn {m : Mach} (hm : MOk m) {P : List BE} (hP : Rch m 0 P) : connB (partM m (ascN m.rows.length P)) = true := by
  have hc := ascN_closed hm hP
  have hl : (partM m (ascN m.rows.length P)).rows.length = (ascN m.rows.length P).length := by simp [partM]
  refine connB_t fun k hk => ?_
  rw [hl] at hk
  rw [reachL_get (by rw [hl]; exact hk)]
  have hr1 := hm.r1
  -- along the words of the entries
  have key : ∀ n j, j ≤ n → j < P.length → Reach (partM m (ascN m.rows.length P)) 0 ((ascN m.rows.length P).idxOf (P.getD j default).st) := by
    intro n
    induction n with
    | zero =>
      intro j hj hjl
      obtain rfl : j = 0 := by omega
      rw [hP.root]
      have := ascN_zero hm hP
      unfold pos at this
      rw [if_neg (by decide)] at this
      have h0 : (ascN m.rows.length P).idxOf 0 = 0 := by
        have : ((ascN m.rows.length P).idxOf (Int.toNat 0) : Int) = 0 := this
        exact_mod_cast this
      rw [h0]
      exact .refl
    | succ n ih =>
      intro j hj hjl
      by_cases h0 : j = 0
      · exact ih j (by omega) hjl
      · obtain ⟨q, i, hq, hi, _, _, _, hed⟩ := hP.par j (by omega) hjl
        have hr := ih q (by omega) (by omega)
        have hqm : (P.getD q default).st ∈ ascN m.rows.length P := ascN_mem.2 ⟨hP.rng q (by omega), occ_iff.2 ⟨q, by omega, rfl⟩⟩
        obtain ⟨h1, h2⟩ := mem_idx hqm
        have hrow : (partM m (ascN m.rows.length P)).rows.getD ((ascN m.rows.length P).idxOf (P.getD q default).st) default = rowP m (ascN m.rows.length P) (P.getD q default).st := by rw [partM_row h1, h2]
        have hget := rowP_get (L := ascN m.rows.length P) hm (hP.rng q (by omega)) hi
        have hps : pos (ascN m.rows.length P) (ed m (P.getD q default).st i) = ((ascN m.rows.length P).idxOf (P.getD j default).st : Int) := by
          unfold pos
          rw [hed, if_neg (by omega), Int.toNat_natCast]
        have := Reach.step (m := partM m (ascN m.rows.length P)) (i := i) hr (by rw [hl]; exact h1) (by rw [hrow, rowP_len hm (hP.rng q (by omega))]; exact hi) (by rw [hrow, hget]; show 0 ≤ pos _ _; rw [hps]; omega)
        rw [hrow, hget] at this
        have e : (pos (ascN m.rows.length P) (ed m (P.getD q default).st i)).toNat = (ascN m.rows.length P).idxOf (P.getD j default).st := by rw [hps, Int.toNat_natCast]
        rw [← e]
        exact this
  have hmem : (ascN m.rows.length P).getD k 0 ∈ ascN m.rows.length P := by simp [List.getD_eq_getElem?_getD, hk]
  obtain ⟨h1, h2⟩ := ascN_mem.1 hmem
  obtain ⟨j, hj, hst⟩ := occ_iff.1 h2
  have := key j j (Nat.le_refl _) hj
  rwa [hst, idx_getD hc.nd hk] at this
theorem trim_L1 {m : Mach} (hm : MOk m) {P : List BE} (hP : Rch m 0 P) (W : List (List Int)) : gauntletlaw06_WalksTrim_L1 2000 (W, seenL m.rows.length P) 2000 [] 0 = some (ascL m.rows.length P) := by
  have hr2 := hm.r2
  have hsl := seenL_len m.rows.length P
  refine loop_eq (σ := List Int) (fun F k st => gauntletlaw06_WalksTrim_L1 2000 (W, seenL m.rows.length P) F st (k : Int)) m.rows.length (fun k st => st = ascL k P) _ (fun F k st hk hst => ?_) (fun F st hst => ?_) 2000 0 _ (Nat.zero_le _) (by omega) rfl
  · subst hst
    right
    refine ⟨_, rfl, ?_⟩
    have hixs : ix (seenL m.rows.length P) (k : Int) = occ P k := by rw [ix_nat, seenL_get hk]
    simp only [gauntletlaw06_WalksTrim_L1, hixs]
    rw [cd_t (by omega)]
    refine (bd_pos (x := ascL (k + 1) P) ?_).trans (gd_pos (in64_of (by omega)))
    rw [gd_pos (okI_nat (by omega)), ascL_succ]
    cases ho : occ P k
    · rw [cf rfl, if_neg (by decide), List.append_nil]
    · have hal : (ascL k P).length ≤ k := by unfold ascL; rw [List.length_map]; exact Nat.le_trans (List.length_filter_le _ _) (by simp)
      have hfit : fits 8 (ascL k P) ([(k : Int)] : List Int) := ⟨by simp only [List.length_singleton]; omega, by simp only [List.length_singleton]; omega⟩
      rw [ct rfl, if_pos rfl, gd_pos hfit]
  · subst hst
    simp only [gauntletlaw06_WalksTrim_L1]
    rw [cd_f (by omega)]
theorem trim_law {x : MDat} {y : WDat} (hx : MDOk x) (hy : WDOk y) : gauntletlaw06_WalksTrim 2000 x y = some true := by
  have hm := mOf_ok hx
  obtain ⟨h6, h3⟩ := mOf_6 hx
  have hw := wOf_ok (x := y) (n := (mOf x).inputs) hm.i1
  have hr1 := hm.r1
  unfold gauntletlaw06_WalksTrim
  rw [bd_pos (mof_eq hx (by decide)), bd_pos (wof_eq hy hm.i1 (by decide))]
  simp only [mach_eta]
  generalize wOf y (mOf x).inputs = w at *
  generalize mOf x = m at *
  obtain ⟨hw1, hw2⟩ := hw
  have hP := rch_ok hm (s0 := 0) (by omega)
  rw [bd_pos (trim_eq (N := 2000) hm (by decide)), bd_pos (raccess_eq hm (by decide) h6 h3)]
  have hc := ascN_closed hm hP
  have hz := ascN_zero hm hP
  have hcn := trim_conn hm hP
  generalize rch m 0 = P at *
  have hpm := partM_ok hm hc
  have hle : castL (ascN m.rows.length P) = ascL m.rows.length P := rfl
  have hlen := hc.len
  have hal : (ascL m.rows.length P).length ≤ 6 := by rw [← hle, castL_len]; omega
  rw [bd_pos (trim_L1 hm hP _)]
  have h0 : (0 : Nat) ∈ ascN m.rows.length P := ascN_mem.2 ⟨by omega, occ_iff.2 ⟨0, hP.pos, by rw [hP.root]⟩⟩
  have hrun := (part_run hm hc w (s := 0) (.inr ⟨by decide, h0⟩) hw1).1
  rw [hz] at hrun
  have hp0 : 0 < (partM m (ascN m.rows.length P)).rows.length := by
    have : (partM m (ascN m.rows.length P)).rows.length = (ascN m.rows.length P).length := by simp [partM]
    rw [this]; exact List.length_pos_iff.2 hc.ne
  have e1 : gauntletlaw06_list 2000 (castL (ascN m.rows.length P)) 0 (ascL m.rows.length P) 0 = some true := by
    rw [hle, list_eq (N := 2000) (by omega) (by omega)]; simp
  have e2 : gauntletref06_Part 2000 m (ascL m.rows.length P) = some (partM m (ascN m.rows.length P)) := by rw [← hle]; exact rpart_eq hm hc (by decide)
  have e3 : gauntletlaw06_machine 2000 (partM m (ascN m.rows.length P)) 0 (partM m (ascN m.rows.length P)) = some true := machine_eq hpm.small (by decide)
  have e4 : gauntletref04_Connected 2000 (partM m (ascN m.rows.length P)) = some true := by rw [rconn_eq hpm (by decide), hcn]
  have e5 : gauntletref04_Run 2000 (partM m (ascN m.rows.length P)) 0 w = some (runL m 0 w) := by
    rw [rrun_eq (N := 2000) hpm (.inr ⟨by omega, by omega⟩) hw1 (by omega) (by omega), hrun]
  have e6 : gauntletref04_Run 2000 m 0 w = some (runL m 0 w) := rrun_eq (N := 2000) hm (.inr ⟨by omega, by omega⟩) hw1 (by omega) (by omega)
  have hrl := runL_length m 0 w
  have e7 : gauntletref01_Same 2000 (runL m 0 w) (runL m 0 w) = some true := by rw [isame_eq (N := 2000) (by omega) (by omega)]; simp
  have g : ∀ {α : Type} {b : Bool} {e : Option α} {v : α} [Inhabited α] {k : Option α → Option Bool}, b = true → e = some v → bd (gop b e) k = k (some v) := fun hb he => by
    rw [bd_gop (fun _ => he), hb]; rfl
  refine (bd_pos e1).trans ?_
  refine (g rfl e2).trans ?_
  refine (g rfl e3).trans ?_
  refine (g rfl e4).trans ?_
  refine (g rfl e5).trans ?_
  refine (g rfl e6).trans ?_
  refine (g rfl e7).trans ?_
  refine (g rfl lives_eq).trans ?_
  rfl
end GV
end Go.Proofs.Ytncblcdhmcmkmaa
