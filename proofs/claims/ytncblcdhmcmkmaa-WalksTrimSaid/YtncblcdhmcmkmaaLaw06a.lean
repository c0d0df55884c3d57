/- Chapter 06: the laws Access and Path, of the plain programs. -/
import Derived.Test.YtncblcdhmcmkmaaSpec06e
import Derived.Test.YtncblcdhmcmkmaaLives06
namespace Go.Proofs.Ytncblcdhmcmkmaa
namespace GV
set_option linter.unusedVariables false
set_option maxRecDepth 100000

theorem mach_eta (m : Mach) : (⟨m.inputs, m.outputs, m.rows⟩ : Mach) = m := rfl
theorem mOf_6 {x : MDat} (h : MDOk x) : (mOf x).rows.length ≤ 6 ∧ (mOf x).inputs ≤ 3 := by
  have h1 := h.st; have h2 := h.ins
  have a1 : 1 ≤ x.n ∧ x.n ≤ 6 := by unfold MDat.n; omega
  have a2 : 1 ≤ x.inp ∧ x.inp ≤ 3 := by unfold MDat.inp; omega
  have hl : (mOf x).rows.length = x.n.toNat := by simp [mOf]
  exact ⟨by omega, a2.2⟩
theorem cut_take (w : List Int) (k : Nat) : cut w 0 (k : Int) = w.take k := by simp [cut]
theorem ascL_succ (k : Nat) (P : List BE) : ascL (k + 1) P = ascL k P ++ if occ P k = true then [(k : Int)] else [] := by
  unfold ascL
  rw [List.range_succ, List.filter_append, List.map_append]
  cases h : occ P k <;> simp [h]
theorem occ_word {m : Mach} {s0 : Nat} {P : List BE} (h : Rch m s0 P) {t : Nat} (ho : occ P t = true) : ∃ j, j < P.length ∧ (P.getD j default).st = t ∧ wdOf P t = (P.getD j default).wd := by
  obtain ⟨j, hj, rfl⟩ := occ_iff.1 ho
  exact ⟨j, hj, rfl, h.wdOf hj⟩
theorem word_len {m : Mach} {s0 : Nat} {P : List BE} (h : Rch m s0 P) (t : Nat) : (wdOf P t).length ≤ m.rows.length := by
  cases ho : occ P t
  · rw [wdOf_nocc ho]; simp
  · obtain ⟨j, hj, _, e⟩ := occ_word h ho
    rw [e]
    have := (h.wok j hj).2
    have := h.le
    omega
theorem access_L2 {m : Mach} (hm : MOk m) {P : List BE} (hP : Rch m 0 P) (h6 : m.rows.length ≤ 6) {s : Nat} (hs : s < m.rows.length) (ho : occ P s = true) (X : List Int) :
    gauntletlaw06_WalksAccess_L2 2000 m (wordsL m.rows.length P, seenL m.rows.length P, 0) X (s : Int) 2000 0 = some (.go (X ++ [(s : Int)])) := by
  obtain ⟨j, hj, hst, hw⟩ := occ_word hP ho
  have hwl := word_len hP s
  have hwix : ix (wordsL m.rows.length P) (s : Int) = wdOf P s := by rw [ix_nat, wordsL_get hs]
  refine loop_eq (σ := Unit) (fun F k _ => gauntletlaw06_WalksAccess_L2 2000 m (wordsL m.rows.length P, seenL m.rows.length P, 0) X (s : Int) F (k : Int)) (wdOf P s).length (fun _ _ => True) _ (fun F k _ hk _ => ?_) (fun F _ _ => ?_) 2000 0 () (Nat.zero_le _) (by omega) trivial
  · right
    refine ⟨(), trivial, ?_⟩
    simp only [gauntletlaw06_WalksAccess_L2, hwix, mach_eta]
    obtain ⟨q, hq, hqw⟩ := hP.pref j hj k (by rw [← hw]; omega)
    rw [← hw] at hqw
    have hqa := hP.aft q hq
    have hqr := hP.rng q hq
    have haft : gauntletref04_After 2000 2000 m 0 (cut (wdOf P s) 0 (k : Int)) = some ((P.getD q default).st : Int) := by
      rw [cut_take, ← hqw, ← hqa]
      exact raft_eq (N := 2000) hm 2000 0 _ (.inr ⟨by omega, by have := hm.r1; omega⟩) (hP.wok q hq).1 (by have := (hP.wok q hq).2; have := hP.le; omega)
    have hwq : ix (wordsL m.rows.length P) ((P.getD q default).st : Int) = (wdOf P s).take k := by rw [ix_nat, wordsL_get hqr, hP.wdOf hq, hqw]
    have hok : okI (wordsL m.rows.length P) (s : Int) := okI_nat (by rw [wordsL_len]; exact hs)
    have hoq : okI (wordsL m.rows.length P) ((P.getD q default).st : Int) := okI_nat (by rw [wordsL_len]; exact hqr)
    have hos : okS (wdOf P s) 0 (k : Int) := ⟨by omega, by omega, by omega⟩
    rw [gd_pos hok, cd_t (by omega), gd_pos hok, gd_pos hos, bd_pos haft, gd_pos (fun _ => hoq), gd_pos (fun _ => hok), gd_pos (fun _ => hos), hwq, cut_take,
      bd_gop (fun _ => isame_eq (N := 2000) (by rw [List.length_take]; omega) (by rw [List.length_take]; omega))]
    have hneg : decide (((P.getD q default).st : Int) < 0) = false := by simp
    refine (cf (by rw [hneg]; simp)).trans ?_
    exact gd_pos (in64_of (by omega))
  · simp only [gauntletlaw06_WalksAccess_L2, hwix]
    rw [gd_pos (okI_nat (by rw [wordsL_len]; exact hs)), cd_f (by omega)]
theorem access_law {x : MDat} (hx : MDOk x) : gauntletlaw06_WalksAccess 2000 x = some true := by
  have hm := mOf_ok hx
  obtain ⟨h6, h3⟩ := mOf_6 hx
  have hr1 := hm.r1
  unfold gauntletlaw06_WalksAccess
  rw [bd_pos (mof_eq hx (by decide))]
  simp only [mach_eta]
  generalize mOf x = m at *
  have hP := rch_ok hm (s0 := 0) (by omega)
  have hr := reach_eq (N := 2000) hm (by decide)
  rw [bd_pos (access_eq hm (by decide)), bd_pos (raccess_eq hm (by decide) h6 h3)]
  generalize rch m 0 = P at *
  have hc : (((((decide ((0 : Int) ≠ 0)) || (decide (((wordsL m.rows.length P).length : Int) ≠ ((wordsL m.rows.length P).length : Int)))) || (decide (((seenL m.rows.length P).length : Int) ≠ ((seenL m.rows.length P).length : Int)))) || (decide (((wordsL m.rows.length P).length : Int) ≠ ((wordsL m.rows.length P).length : Int)))) || (decide (((seenL m.rows.length P).length : Int) ≠ ((seenL m.rows.length P).length : Int)))) = false := by simp
  have hL : gauntletlaw06_WalksAccess_L1 2000 m (wordsL m.rows.length P, seenL m.rows.length P, 0) (wordsL m.rows.length P, seenL m.rows.length P) 2000 [] 0 = some (.go (ascL m.rows.length P)) := by
    refine loop_eq (σ := List Int) (fun F k st => gauntletlaw06_WalksAccess_L1 2000 m (wordsL m.rows.length P, seenL m.rows.length P, 0) (wordsL m.rows.length P, seenL m.rows.length P) F st (k : Int)) m.rows.length (fun k st => st = ascL k P) _ (fun F k st hk hi => ?_) (fun F st hi => ?_) 2000 0 [] (Nat.zero_le _) (by omega) rfl
    · subst hi
      right
      refine ⟨_, rfl, ?_⟩
      have hixw : ix (wordsL m.rows.length P) (k : Int) = wdOf P k := by rw [ix_nat, wordsL_get hk]
      have hixs : ix (seenL m.rows.length P) (k : Int) = occ P k := by rw [ix_nat, seenL_get hk]
      have hokw : okI (wordsL m.rows.length P) (k : Int) := okI_nat (by rw [wordsL_len]; exact hk)
      have hoks : okI (seenL m.rows.length P) (k : Int) := okI_nat (by rw [seenL_len]; exact hk)
      have hwl := word_len hP k
      simp only [gauntletlaw06_WalksAccess_L1, hixw, hixs]
      rw [cd_t (by rw [wordsL_len]; omega)]
      refine (bd_pos (x := (Ex.go (ascL (k + 1) P) : Ex (List Int) (Ex (List Int) Bool))) ?_).trans ?_
      · rw [gd_pos hoks, gd_pos hoks, gd_pos (fun _ => hokw), gd_pos (fun _ => hokw), bd_gop (fun _ => list_eq (N := 2000) (by omega) (by omega))]
        have hd : decide (occ P k ≠ occ P k) = false := by simp
        refine (cf (by rw [hd]; simp)).trans ?_
        rw [gd_pos hoks, ascL_succ]
        cases ho : occ P k
        · rw [ct (b := !false) rfl, if_neg (by decide), List.append_nil]
        · rw [cf (b := !true) rfl, if_pos rfl]
          have hal : (ascL k P).length ≤ k := by unfold ascL; rw [List.length_map]; exact Nat.le_trans (List.length_filter_le _ _) (by simp)
          have hfit : fits 8 (ascL k P) ([(k : Int)] : List Int) := ⟨by simp only [List.length_singleton]; omega, by simp only [List.length_singleton]; omega⟩
          rw [gd_pos hfit]
          have := access_L2 hm hP h6 hk ho (ascL k P)
          exact this
      · rw [on_g]
        exact gd_pos (in64_of (by omega))
    · subst hi
      simp only [gauntletlaw06_WalksAccess_L1]
      rw [cd_f (by rw [wordsL_len]; omega)]
  refine (cf hc).trans ?_
  refine (bd_pos hL).trans ?_
  rw [on_g, bd_pos hr, sort_asc hP]
  have hal : (ascL m.rows.length P).length ≤ 6 := by unfold ascL; rw [List.length_map]; exact Nat.le_trans (List.length_filter_le _ _) (by simpa using h6)
  rw [bd_pos (list_eq (N := 2000) (l := ascL m.rows.length P) (w := ascL m.rows.length P) (e := 0) (f := 0) (by omega) (by omega)), bd_gop (fun _ => lives_eq)]
  simp
theorem dist_step {m : Mach} (hm : MOk m) {s0 : Nat} {P : List BE} (hP : Rch m s0 P) {k i : Nat} (hk : k < m.rows.length) (hi : i < m.inputs.toNat) (h1 : 0 ≤ dist P k) (h2 : 0 ≤ ed m k i) : 0 ≤ dist P (ed m k i).toNat ∧ dist P (ed m k i).toNat ≤ dist P k + 1 := by
  have hok : occ P k = true := by
    unfold dist at h1
    by_cases h : occ P k = true
    · exact h
    · rw [if_neg h] at h1; omega
  obtain ⟨q, hq, hst, hw⟩ := occ_word hP hok
  subst hst
  obtain ⟨j, hj, hjs, hle⟩ := hP.cls q i hq hi (by omega)
  have hjo : occ P (ed m (P.getD q default).st i).toNat = true := occ_iff.2 ⟨j, hj, by omega⟩
  have hjw : wdOf P (ed m (P.getD q default).st i).toNat = (P.getD j default).wd := by
    rw [show (ed m (P.getD q default).st i).toNat = (P.getD j default).st by omega]; exact hP.wdOf hj
  unfold dist
  rw [if_pos hjo, if_pos hok, hjw, hw]
  have : (P.getD j default).wd.length ≤ (P.getD q default).wd.length + 1 := by
    rcases hle with e | (e | ⟨e, _⟩)
    · rw [e]; simp
    · rw [List.length_append, List.length_singleton] at e; omega
    · rw [e]; simp
  omega
theorem path_L2 {m : Mach} (hm : MOk m) (h6 : m.rows.length ≤ 6) (h3 : m.inputs ≤ 3) {s0 : Nat} {P : List BE} (hP : Rch m s0 P) {k : Nat} (hk : k < m.rows.length) :
    gauntletlaw06_WalksPath_L2 2000 m (distL m.rows.length P, 0) (k : Int) 2000 0 = some (.go ()) := by
  have hi1 := hm.i1
  have hrow := hm.row k hk
  have hdk : ix (distL m.rows.length P) (k : Int) = dist P k := by rw [ix_nat, distL_get hk]
  have hdl := word_len hP k
  refine loop_eq (σ := Unit) (fun F i _ => gauntletlaw06_WalksPath_L2 2000 m (distL m.rows.length P, 0) (k : Int) F (i : Int)) m.inputs.toNat (fun _ _ => True) _ (fun F i _ hi _ => ?_) (fun F _ _ => ?_) 2000 0 () (Nat.zero_le _) (by omega) trivial
  · right
    refine ⟨(), trivial, ?_⟩
    have hed : (ix (ix m.rows (k : Int)) (i : Int)).to = ed m k i := by rw [ix_nat, ix_nat]; rfl
    have hri : ix m.rows (k : Int) = m.rows.getD k default := ix_nat _ _
    simp only [gauntletlaw06_WalksPath_L2, hdk, hed]
    have hokk : okI (distL m.rows.length P) (k : Int) := okI_nat (by rw [distL_len]; exact hk)
    rw [cd_t (by omega), gd_pos (okI_nat hk), gd_pos (by rw [hri]; exact okI_nat (by omega)), gd_pos hokk]
    have hdb : dist P k ≤ 6 := by unfold dist; split <;> omega
    have hlast : in64 ((i : Int) + 1) := in64_of (by omega)
    by_cases hc : 0 ≤ dist P k ∧ 0 ≤ ed m k i
    · obtain ⟨h1, h2⟩ := hc
      have hne := (ed_ok hm hk hi).resolve_left (by omega)
      obtain ⟨h4, h5⟩ := dist_step hm hP hk hi h1 h2
      have hoke : okI (distL m.rows.length P) (ed m k i) := ⟨h2, by rw [distL_len]; exact hne.2⟩
      have hde : ix (distL m.rows.length P) (ed m k i) = dist P (ed m k i).toNat := by rw [ix_int, distL_get (by omega)]
      rw [gd_pos (fun _ => hoke), gd_pos (fun _ => hoke), gd_pos (fun _ => hokk), gd_pos (fun _ => in64_of (by omega))]
      refine (cf ?_).trans (gd_pos hlast)
      rw [hde, decide_eq_false (show ¬ dist P (ed m k i).toNat < 0 by omega), decide_eq_false (show ¬ dist P k + 1 < dist P (ed m k i).toNat by omega)]
      simp
    · have hf : (decide (0 ≤ dist P k) && decide (0 ≤ ed m k i)) = false := by
        rw [Bool.and_eq_false_iff]
        by_cases h1 : 0 ≤ dist P k
        · right; exact decide_eq_false fun h2 => hc ⟨h1, h2⟩
        · left; exact decide_eq_false h1
      have hno : ∀ {p : Prop} {b : Bool}, (((true && ((decide (0 ≤ dist P k) && decide (0 ≤ ed m k i)) == true)) && b) = true) → p := fun h => by rw [hf] at h; simp at h
      have hno1 : ∀ {p : Prop}, ((true && ((decide (0 ≤ dist P k) && decide (0 ≤ ed m k i)) == true)) = true) → p := fun h => by rw [hf] at h; simp at h
      rw [gd_pos (fun h => hno1 h), gd_pos (fun h => hno h), gd_pos (fun h => hno h), gd_pos (fun h => hno h)]
      refine (cf ?_).trans (gd_pos hlast)
      rw [hf]; rfl
  · simp only [gauntletlaw06_WalksPath_L2]
    rw [cd_f (by omega)]
theorem path_law {x : MDat} (hx : MDOk x) {a b : Int} (ha : 0 ≤ a ∧ a ≤ 255) (hb : 0 ≤ b ∧ b ≤ 255) : gauntletlaw06_WalksPath 2000 x a b = some true := by
  have hm := mOf_ok hx
  obtain ⟨h6, h3⟩ := mOf_6 hx
  have hr1 := hm.r1
  unfold gauntletlaw06_WalksPath
  rw [bd_pos (mof_eq hx (by decide))]
  simp only [mach_eta]
  generalize mOf x = m at *
  rw [gd_pos (in64_of (by omega)), gd_pos ⟨ha.1, by omega⟩, gd_pos (in64_of (by omega)), gd_pos ⟨hb.1, by omega⟩]
  have hs := Int.emod_nonneg a (show (m.rows.length : Int) ≠ 0 by omega)
  have hs' := Int.emod_lt_of_pos a (show (0 : Int) < m.rows.length by omega)
  have ht := Int.emod_nonneg b (show (m.rows.length : Int) ≠ 0 by omega)
  have ht' := Int.emod_lt_of_pos b (show (0 : Int) < m.rows.length by omega)
  generalize a % (m.rows.length : Int) = s at *
  generalize b % (m.rows.length : Int) = t at *
  obtain ⟨s, rfl⟩ := Int.eq_ofNat_of_zero_le hs
  obtain ⟨t, rfl⟩ := Int.eq_ofNat_of_zero_le ht
  have hsn : s < m.rows.length := by omega
  have htn : t < m.rows.length := by omega
  have hP := rch_ok hm hsn
  rw [bd_pos (path_eq (N := 2000) hm (by decide) hsn htn), bd_pos (dist_eq (N := 2000) hm (by decide) hsn), bd_pos (rpaths_eq (N := 2000) hm (by decide) h6 h3 hsn)]
  generalize rch m s = P at *
  have hwt : ix (wordsL m.rows.length P) (t : Int) = wdOf P t := by rw [ix_nat, wordsL_get htn]
  have hst : ix (seenL m.rows.length P) (t : Int) = occ P t := by rw [ix_nat, seenL_get htn]
  have hwl := word_len hP t
  have hokw : okI (wordsL m.rows.length P) (t : Int) := okI_nat (by rw [wordsL_len]; exact htn)
  have hoks : okI (seenL m.rows.length P) (t : Int) := okI_nat (by rw [seenL_len]; exact htn)
  have hlist : gauntletlaw06_list 2000 (wdOf P t) 0 (wdOf P t) 0 = some true := by rw [list_eq (N := 2000) (by omega) (by omega)]; simp
  have hL : gauntletlaw06_WalksPath_L1 2000 m (distL m.rows.length P, 0) (wordsL m.rows.length P, seenL m.rows.length P) 2000 0 = some (.go ()) := by
    refine loop_eq (σ := Unit) (fun F k _ => gauntletlaw06_WalksPath_L1 2000 m (distL m.rows.length P, 0) (wordsL m.rows.length P, seenL m.rows.length P) F (k : Int)) m.rows.length (fun _ _ => True) _ (fun F k _ hk _ => ?_) (fun F _ _ => ?_) 2000 0 () (Nat.zero_le _) (by omega) trivial
    · right
      refine ⟨(), trivial, ?_⟩
      have hixw : ix (wordsL m.rows.length P) (k : Int) = wdOf P k := by rw [ix_nat, wordsL_get hk]
      have hixs : ix (seenL m.rows.length P) (k : Int) = occ P k := by rw [ix_nat, seenL_get hk]
      have hdk : ix (distL m.rows.length P) (k : Int) = dist P k := by rw [ix_nat, distL_get hk]
      simp only [gauntletlaw06_WalksPath_L1, hixw, hixs, hdk]
      rw [cd_t (by rw [wordsL_len]; omega)]
      refine (bd_pos (x := (Ex.go () : Ex Unit (Ex Unit Bool))) ?_).trans ?_
      · refine (bd_pos (x := dist P k) ?_).trans ?_
        · rw [gd_pos (okI_nat (by rw [seenL_len]; exact hk))]
          unfold dist
          cases ho : occ P k
          · rw [cf rfl, if_neg (by decide)]
          · rw [ct rfl, gd_pos (okI_nat (by rw [wordsL_len]; exact hk)), if_pos rfl]
        · rw [gd_pos (okI_nat (by rw [distL_len]; exact hk)), cd_f (by simp)]
          exact path_L2 hm h6 h3 hP hk
      · rw [on_g]
        exact gd_pos (in64_of (by omega))
    · simp only [gauntletlaw06_WalksPath_L1]
      rw [cd_f (by rw [wordsL_len]; omega)]
  rw [gd_pos hokw]
  simp only [hwt, hst]
  rw [bd_pos hlist, gd_pos (fun _ => hoks)]
  refine (cf ?_).trans ?_
  · rw [wordsL_len, distL_len]; simp
  · refine (bd_pos hL).trans ?_
    rw [on_g, bd_pos lives_eq]
end GV
end Go.Proofs.Ytncblcdhmcmkmaa
