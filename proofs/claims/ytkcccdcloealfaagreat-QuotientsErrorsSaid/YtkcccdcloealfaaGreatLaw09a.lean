import Derived.Test.YtkcccdcloealfaaGreatSpec09e
import Derived.Test.YtkcccdcloealfaaGreatLives09
import Derived.Test.YtkcccdcloealfaaGreatSpec06m
set_option linter.unusedVariables false
set_option linter.unusedSimpArgs false
namespace Go.Proofs.YtkcccdcloealfaaGreat
namespace GV
set_option maxRecDepth 100000
theorem zo8 {x : MDat} {y : WDat} (hx : MDOk x) (hy : WDOk y) : oo 2000 x y = some true := by
  have hm := zmv hx
  obtain ⟨h6, h3⟩ := q0w hx
  obtain ⟨hw1, hw2⟩ := zw2 (x := y) (n := (mOf x).inputs) hm.i1
  unfold oo
  rw [zy (zka hx (by decide)), zy (zy5 hy hm.i1 (by decide))]
  generalize wOf y (mOf x).inputs = w at *
  generalize mOf x = m at *
  have hq := zay hm
  have hr : z2a (lv m) 0 w = z2a m 0 w := (zp9 hm).2.2 w hw1
  refine (zy (show yl 2000 m = _ from zca hm (by decide))).trans ?_
  refine (zy (show dn 2000 m = _ from znf hm (by decide) h6 h3)).trans ?_
  refine (zy (show y8 2000 (lv m) 0 (lv m) = _ from zes hq.small (by decide))).trans ?_
  refine (z9r rfl (show df 2000 (lv m) 0 w = _ from zib hq (zth hq) hw1 (by omega) (by omega))).trans ?_
  refine (z9r rfl (show df 2000 m 0 w = _ from zib hm (zth hm) hw1 (by omega) (by omega))).trans ?_
  have hl : (z2a (lv m) 0 w).length = w.length := z3w _ _ _
  refine (z9r rfl (show ai 2000 (z2a (lv m) 0 w) (z2a m 0 w) = _ from zjg (by rw [hl]; omega) (by rw [hl]; omega))).trans ?_
  refine (cf (by rw [hr, decide_eq_true rfl]; rfl)).trans ?_
  refine (zy (show yl 2000 (lv m) = _ from zca hq (by decide))).trans ?_
  refine (zy (show vo 2000 (lv m) = _ from ziu hq (by decide))).trans ?_
  rw [zsd hm, zx5 hm]
  refine (zy (show y8 2000 (lv m) 0 (lv m) = _ from zes hq.small (by decide))).trans ?_
  refine (z9r rfl z7x).trans ?_
  rfl
theorem q27 {m : Mach} (hm : MOk m) (h6 : m.rows.length ≤ 6) {w : List Int} (hw1 : WOk m.inputs w) (hw2 : w.length ≤ 12) : uu 2000 m w (za2 m, 0) (lv m) 2000 0 = some (Ex.go ()) := by
  have hml := zcy (m := m)
  have hq := zay hm
  refine ui (σ := Unit) (fun F k _ => uu 2000 m w (za2 m, 0) (lv m) F (k : Int)) m.rows.length (fun k _ => True) _ (fun F k _ hk _ => .inr ⟨(), trivial, ?_⟩) (fun F _ _ => ?_) 2000 0 () (Nat.zero_le _) (by omega) trivial
  · simp only [uu]
    have hx : ix (za2 m) (k : Int) = z95 m k := z8i hk
    rw [hx]
    refine (wu (by omega)).trans ?_
    refine (zq (qo (by omega))).trans ?_
    refine (zq (fun _ => qo (by omega))).trans ?_
    cases ho : occ (rch m 0) k
    · have hno := zt0 ho
      rw [hno]
      refine (zy (zt9 rfl)).trans ?_
      refine (zy (zt9 rfl)).trans ?_
      refine (zy (zt9 rfl)).trans ?_
      refine (cf rfl).trans ?_
      exact zq (qy (by omega))
    · obtain ⟨h1, h2⟩ := zsi hm ho
      have hrun := zwr hm hk ho hw1
      have ht : (true && (decide (0 ≤ z95 m k) == true)) = true := by rw [decide_eq_true h1]; rfl
      have hl : (z2a (lv m) (z95 m k) w).length = w.length := z3w _ _ _
      refine (z9r ht (show df 2000 (lv m) (z95 m k) w = _ from zib hq (.inr ⟨h1, h2⟩) hw1 (by omega) (by omega))).trans ?_
      refine (z9r ht (show df 2000 m (k : Int) w = _ from zib hm (.inr ⟨by omega, by omega⟩) hw1 (by omega) (by omega))).trans ?_
      refine (z9r ht (show ai 2000 (z2a (lv m) (z95 m k) w) (z2a m (k : Int) w) = _ from zjg (by rw [hl]; omega) (by rw [hl]; omega))).trans ?_
      refine (cf (by rw [hrun, decide_eq_true rfl]; simp)).trans ?_
      exact zq (qy (by omega))
  · simp only [uu]
    exact uo (by omega)
theorem zz7 {x : MDat} {y : WDat} (hx : MDOk x) (hy : WDOk y) : rq 2000 x y = some true := by
  have hm := zmv hx
  obtain ⟨h6, h3⟩ := q0w hx
  obtain ⟨hw1, hw2⟩ := zw2 (x := y) (n := (mOf x).inputs) hm.i1
  unfold rq
  rw [zy (zka hx (by decide)), zy (zy5 hy hm.i1 (by decide))]
  generalize wOf y (mOf x).inputs = w at *
  generalize mOf x = m at *
  have hml := zcy (m := m)
  have hr1 := hm.r1
  have hx0 : ix (za2 m) 0 = 0 := (z8i (s := 0) (by omega)).trans (zlg hm)
  refine (zy (show z0e 2000 m = _ from zsg hm (by decide))).trans ?_
  refine (zy (show dn 2000 m = _ from znf hm (by decide) h6 h3)).trans ?_
  refine (zy (show z0k 2000 m = _ from zsj hm (by decide) h6 h3)).trans ?_
  refine (zy (show z04 2000 (za2 m) 0 (za2 m) 0 = some true from (zz8 (by omega) (by omega)).trans (by rw [decide_eq_true rfl, decide_eq_true rfl]; rfl))).trans ?_
  refine (zq (fun _ => ⟨by omega, by dsimp only; omega⟩)).trans ?_
  refine (cf (by dsimp only; rw [hx0]; rfl)).trans ?_
  refine (zy (q27 hm h6 hw1 hw2)).trans ?_
  rw [zkv]
  have hconn : xw 2000 m = some (connB m) := zir hm (by decide)
  cases hc : connB m
  · obtain ⟨t, ht, ho⟩ := zxq hm hc
    have hbad : kz 2000 m (lv m) (za2 m) = some (false, 1) := by
      refine zzd hm (zay hm) (by decide) (by omega) ?_ (by decide)
      rw [if_neg (fun h => h rfl), if_neg (fun h => h hml), if_pos]
      refine List.any_eq_true.2 ⟨-1, ?_, by simp⟩
      have : (za2 m).getD t default = -1 := by rw [z8i ht, zt0 ho]
      rw [← this]
      exact lg (by omega)
    refine (zy hbad).trans ?_
    rw [hc] at hconn
    refine (zy hconn).trans ?_
    refine (cf rfl).trans ?_
    refine (z9r rfl z7x).trans ?_
    rfl
  · have hgood : kz 2000 m (lv m) (za2 m) = some (true, 0) := by
      rw [q1l (zt2 hm hc) (by decide), zzz hm hc]
    refine (zy hgood).trans ?_
    rw [hc] at hconn
    refine (zy hconn).trans ?_
    refine (ct rfl).trans ?_
    refine (z9r rfl z7x).trans ?_
    rfl
/-! ### Proper -/
theorem zrn {m : Mach} (h : CMach m) : connB m = true := znw (fun t ht => z15.2 (h.all t ht)) h.ok
theorem zx8 {m : Mach} (h : CMach m) : properM m ≠ 9 ∧ properM m ≠ 11 := by
  unfold properM
  rw [if_neg (by rw [(z1q m).2 h.ok]; simp), h.compl, if_neg (by decide), zrn h, if_neg (by decide)]
  split <;> decide
theorem zw3 {m : Mach} (k : Nat) : max (cntF (cls m) k : Int) ((cls m k : Int) + 1) = (cntF (cls m) (k + 1) : Int) := by
  by_cases hk : 1 ≤ k
  · have := zt6 (m := m) hk
    omega
  · obtain rfl : k = 0 := by omega
    rw [zcx, zs6]; rfl
theorem zu9 {m : Mach} (hm : MOk m) : uf 2000 (z0o m) 2000 0 0 = some (cntF (cls m) m.rows.length : Int) := by
  have hcl : (z0o m).length = m.rows.length := z5g
  have hr2 := hm.r2
  refine ui (σ := Int) (fun F k st => uf 2000 (z0o m) F st (k : Int)) m.rows.length (fun k st => st = (cntF (cls m) k : Int)) _ (fun F k st hk hq => .inr ?_) (fun F st hq => ?_) 2000 0 0 (Nat.zero_le _) (by omega) rfl
  · subst hq
    refine ⟨_, rfl, ?_⟩
    simp only [uf]
    have hx : ix (z0o m) (k : Int) = ((cls m k : Nat) : Int) := z5h hk
    have hlt := zci (m := m) hk
    have hle := z88 (cls m) m.rows.length
    rw [wu (by omega), zq (qo (by omega)), hx, zq (qy (by omega)), zq (qy (by omega)), zw3]
    rfl
  · subst hq
    simp only [uf]
    rw [uo (by omega)]
theorem zrm {x : MDat} {y : Sgauntletlaw06_C} (hx : MDOk x) (hy : CDOk y) : oz 2000 x y = some true := by
  have hm := zmv hx
  unfold oz
  rw [zy (zka hx (by decide))]
  obtain ⟨c, hc, hcm⟩ := q2q (N := 2000) hy (by decide)
  rw [zy hc]
  generalize mOf x = m at *
  have hcl : (z0o m).length = m.rows.length := z5g
  obtain ⟨p9, p11⟩ := zx8 hcm
  refine (zy (show dm 2000 m = _ from zal hm (by decide))).trans ?_
  refine (zy (zu9 hm)).trans ?_
  refine (zy (show vo 2000 m = _ from ziu hm (by decide))).trans ?_
  refine (zy (show wm 2000 m = _ from z7t hm.small (by decide))).trans ?_
  refine (zy (show xu 2000 m = _ from z9g hm.small (by decide))).trans ?_
  have e0 : decide (properM m = properM m) = true := decide_eq_true rfl
  have e1 : decide (properM c = properM c) = true := decide_eq_true rfl
  rw [e0]
  refine (z9r rfl (show wm 2000 c = _ from z7t hcm.ok.small (by decide))).trans ?_
  refine (z9r rfl (show xu 2000 c = _ from z9g hcm.ok.small (by decide))).trans ?_
  have e2 : decide (((some (properM c)).getD default) = ((some (properM c)).getD default)) = true := decide_eq_true rfl
  have e9 : decide (((some (properM c)).getD default) ≠ 9) = true := decide_eq_true p9
  have e11 : decide (((some (properM c)).getD default) ≠ 11) = true := decide_eq_true p11
  rw [e2]
  refine (z9r rfl (show wm 2000 c = _ from z7t hcm.ok.small (by decide))).trans ?_
  rw [e9]
  refine (z9r rfl (show wm 2000 c = _ from z7t hcm.ok.small (by decide))).trans ?_
  rw [e11]
  refine (z9r rfl (show xw 2000 m = _ from zir hm (by decide))).trans ?_
  have e3 : decide ((minB m, (0 : Int)).1 = (((some (connB m)).getD default) && decide ((cntF (cls m) m.rows.length : Int) = ((z0o m).length : Int)))) = true := by
    refine decide_eq_true ?_
    rw [hcl]
    show (connB m && zi6 m) = (connB m && _)
    congr 1
    unfold zi6
    by_cases h : cntF (cls m) m.rows.length = m.rows.length
    · rw [decide_eq_true h, decide_eq_true (by omega)]
    · rw [decide_eq_false h, decide_eq_false (by omega)]
  rw [e3]
  refine (z9r rfl z7x).trans ?_
  rfl
/-! ### K -/
end GV
end Go.Proofs.YtkcccdcloealfaaGreat
