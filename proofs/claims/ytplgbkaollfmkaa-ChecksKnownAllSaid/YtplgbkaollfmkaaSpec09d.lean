import Derived.Test.YtplgbkaollfmkaaSpec09c
import Derived.Test.YtplgbkaollfmkaaLaw04c
import Derived.Test.YtplgbkaollfmkaaSpec06l
set_option linter.unusedVariables false
set_option linter.unusedSimpArgs false
namespace Go.Proofs.Ytplgbkaollfmkaa
namespace GV
set_option maxRecDepth 100000
theorem zor {m : Mach} (hok : MOk m) : zfj m = ig m := by
  have hc : ni m = 0 := (o8 m).2 hok
  have hmul := hok.mul
  have hdu := zeu hok m.rows.length (Nat.le_refl _)
  have hU : (zfo m).length = (z1u m (m.rows.length * m.inputs.toNat)).length := rfl
  have hD : zpz m = zd3 m m.rows.length := rfl
  unfold zfj ig
  rw [if_neg (by rw [hc]; simp), hmul.2]
  by_cases h : (zfo m).length = 0
  · rw [decide_eq_true (by omega), decide_eq_true (by omega)]
  · rw [decide_eq_false (by omega), decide_eq_false (by omega)]
theorem zpa {m : Mach} {k : Nat} (hk : 1 ≤ k) : max ((cntF (cls m) k : Int) - 1) (cls m k : Int) = (cntF (cls m) (k + 1) : Int) - 1 := by
  have hs : cntF (cls m) (k + 1) = cntF (cls m) k + if z1v (cls m) k = true then 1 else 0 := rfl
  have hn := zh4 (m := m) k
  by_cases h : z1v (cls m) k = true
  · rw [if_pos h] at hs
    rw [zdy h] at hn
    omega
  · rw [if_neg h] at hs
    have h1 := z0b (cls m) k
    have h2 := z5a (cls m) k
    have h3 : z3t (cls m) k ≠ k := fun e => h (by rw [e] at h2; exact h2)
    have h4 := zbt (cls m) (show z3t (cls m) k < k by omega) h2
    have h5 : cntF (cls m) (z3t (cls m) k) = cls m k := hn
    omega
def zlc (m : Mach) : Bool := decide (cntF (cls m) m.rows.length = m.rows.length)
noncomputable def properM (m : Mach) : Int := if ni m ≠ 0 then ni m else if ig m = false then 9 else if connB m = false then 11 else if zlc m = false then 12 else 0
section
variable {N : Nat} {m : Mach}
theorem zqg (f : Nat → Nat) : cntF f 1 = 1 := by
  have : z1v f 0 = true := rz.2 fun t ht => by omega
  show 0 + (if z1v f 0 = true then 1 else 0) = 1
  rw [if_pos this]
theorem zrl (hm : MOk m) (hN : 200 ≤ N) : slices_Max_int N (zbe m) = some ((cntF (cls m) m.rows.length : Int) - 1) := by
  have hcl : (zbe m).length = m.rows.length := zht
  have hr1 := hm.r1; have hr2 := hm.r2
  have h0 : ix (zbe m) 0 = (cntF (cls m) 1 : Int) - 1 := by
    have : ix (zbe m) 0 = ((cls m 0 : Nat) : Int) := zgp (s := 0) (by omega)
    rw [this, zo1, zqg]; rfl
  have hL : xh N (zbe m) N ((cntF (cls m) 1 : Int) - 1) 1 = some ((cntF (cls m) m.rows.length : Int) - 1) := by
    refine bq (σ := Int) (fun F k st => xh N (zbe m) F st (k : Int)) m.rows.length (fun k st => 1 ≤ k ∧ st = (cntF (cls m) k : Int) - 1) _ (fun F k st hk hq => .inr ?_) (fun F st hq => ?_) N 1 _ hr1 (by omega) ⟨Nat.le_refl _, rfl⟩
    · obtain ⟨h1, rfl⟩ := hq
      refine ⟨_, ⟨by omega, rfl⟩, ?_⟩
      simp only [xh]
      have hx : ix (zbe m) (k : Int) = ((cls m k : Nat) : Int) := zgp hk
      rw [mr (by omega), zu (ji (by omega)), zu (jb (by omega)), hx, zpa h1]
      rfl
    · obtain ⟨h1, rfl⟩ := hq
      simp only [xh]
      rw [p9 (by omega)]
  unfold slices_Max_int
  rw [p9 (by omega), zu ⟨by omega, by omega⟩, h0, qh hL]
theorem zkf (hm : MOk m) (hN : 200 ≤ N) : il N m = some (zlc m) := by
  have hcl : (zbe m).length = m.rows.length := zht
  have hr2 := hm.r2
  obtain ⟨j, hj⟩ := zi8 (N := N) hm hN
  unfold il
  rw [qh hj, qh (zrl hm hN), zu (jb (by dsimp only; omega))]
  unfold zlc
  by_cases h : cntF (cls m) m.rows.length = m.rows.length
  · rw [decide_eq_true h, decide_eq_true (by dsimp only; omega)]
  · rw [decide_eq_false h, decide_eq_false (by dsimp only; omega)]
theorem zln (hm : MOk m) (hN : 200 ≤ N) : iy N m = some (connB m) := by
  unfold iy
  rw [qh (z8x hm.small hN), (o8 m).2 hm]; rfl
theorem zkn (hm : MOk m) (hN : 200 ≤ N) : sj N m = some (ig m) := by
  unfold sj
  rw [qh (zhb hm.small hN), zor hm]
theorem zk9 (hs : Small m) (hN : 200 ≤ N) : fe N m = some (properM m) := by
  unfold fe properM
  rw [qh (z9t hs hN)]
  by_cases h : ni m ≠ 0
  · rw [mr h, if_pos h]
  · rw [p9 h, if_neg h]
    have hm := (o8 m).1 (by omega)
    refine (zlw (x := (m, m, m))).trans ?_
    refine (qh (zkn hm hN)).trans ?_
    cases ig m
    · rfl
    refine (cf rfl).trans ?_
    refine (qh (zln hm hN)).trans ?_
    cases connB m
    · rfl
    refine (cf rfl).trans ?_
    refine (qh (zkf hm hN)).trans ?_
    cases zlc m <;> rfl
end
/-! ### Homomorphisms -/
section
variable {N : Nat} {a b : Mach} {f : List Int}
structure HOk (a b : Mach) (f : List Int) : Prop where
  ha : MOk a
  hb : MOk b
  hi : a.inputs = b.inputs
  hl : f.length = a.rows.length
  hr : ∀ k, k < f.length → 0 ≤ f.getD k default ∧ f.getD k default < b.rows.length
end
end GV
end Go.Proofs.Ytplgbkaollfmkaa
