import Derived.Test.YtplgbkaollfmkaaSpec09c
import Derived.Test.YtplgbkaollfmkaaLaw04c
import Derived.Test.YtplgbkaollfmkaaSpec06l
set_option linter.unusedVariables false
set_option linter.unusedSimpArgs false
namespace Go.Proofs.Ytplgbkaollfmkaa
namespace GV
set_option maxRecDepth 100000
theorem zpq {m : Mach} (hok : MOk m) : zik m = z9d m := by
  have hc : l9 m = 0 := (z1o m).2 hok
  have hmul := hok.mul
  have hdu := zhl hok m.rows.length (Nat.le_refl _)
  have hU : (zio m).length = (z4x m (m.rows.length * m.inputs.toNat)).length := rfl
  have hD : zt7 m = zb7 m m.rows.length := rfl
  unfold zik z9d
  rw [if_neg (by rw [hc]; simp), hmul.2]
  by_cases h : (zio m).length = 0
  · rw [decide_eq_true (by omega), decide_eq_true (by omega)]
  · rw [decide_eq_false (by omega), decide_eq_false (by omega)]
theorem zdu {κ : Type} [DecidableEq κ] {f : Nat → κ} : ∀ {n : Nat}, cntF f n = n ↔ ∀ u, u < n → z2n f u = true
  | 0 => ⟨fun _ u hu => by omega, fun _ => rfl⟩
  | n + 1 => by
    have ih := zdu (f := f) (n := n)
    have hle := zet f n
    have hs : cntF f (n + 1) = cntF f n + if z2n f n = true then 1 else 0 := rfl
    by_cases h : z2n f n = true
    · rw [if_pos h] at hs
      rw [hs]
      constructor
      · intro e u hu
        by_cases e' : u = n
        · subst e'; exact h
        · exact ih.1 (by omega) u (by omega)
      · intro e
        have := ih.2 fun u hu => e u (by omega)
        omega
    · rw [if_neg h] at hs
      rw [hs]
      exact ⟨fun e => by omega, fun e => absurd (e n (by omega)) h⟩
theorem zsr {m : Mach} {k : Nat} (hk : 1 ≤ k) : max ((cntF (cls m) k : Int) - 1) (cls m k : Int) = (cntF (cls m) (k + 1) : Int) - 1 := by
  have hs : cntF (cls m) (k + 1) = cntF (cls m) k + if z2n (cls m) k = true then 1 else 0 := rfl
  have hn := zkz (m := m) k
  by_cases h : z2n (cls m) k = true
  · rw [if_pos h] at hs
    rw [zdo h] at hn
    omega
  · rw [if_neg h] at hs
    have h1 := z2s (cls m) k
    have h2 := z8b (cls m) k
    have h3 : z7d (cls m) k ≠ k := fun e => h (by rw [e] at h2; exact h2)
    have h4 := zf0 (cls m) (show z7d (cls m) k < k by omega) h2
    have h5 : cntF (cls m) (z7d (cls m) k) = cls m k := hn
    omega
def zgt (m : Mach) : Bool := decide (cntF (cls m) m.rows.length = m.rows.length)
noncomputable def properM (m : Mach) : Int := if l9 m ≠ 0 then l9 m else if z9d m = false then 9 else if connB m = false then 11 else if zgt m = false then 12 else 0
section
variable {N : Nat} {m : Mach}
theorem zsh (f : Nat → Nat) : cntF f 1 = 1 := by
  have : z2n f 0 = true := l6.2 fun t ht => by omega
  show 0 + (if z2n f 0 = true then 1 else 0) = 1
  rw [if_pos this]
theorem zuj (hm : MOk m) (hN : 200 ≤ N) : slices_Max_int N (z8c m) = some ((cntF (cls m) m.rows.length : Int) - 1) := by
  have hcl : (z8c m).length = m.rows.length := zfr
  have hr1 := hm.r1; have hr2 := hm.r2
  have h0 : ix (z8c m) 0 = (cntF (cls m) 1 : Int) - 1 := by
    have : ix (z8c m) 0 = ((cls m 0 : Nat) : Int) := zfb (s := 0) (by omega)
    rw [this, zrw, zsh]; rfl
  have hL : ni N (z8c m) N ((cntF (cls m) 1 : Int) - 1) 1 = some ((cntF (cls m) m.rows.length : Int) - 1) := by
    refine xh (σ := Int) (fun F k st => ni N (z8c m) F st (k : Int)) m.rows.length (fun k st => 1 ≤ k ∧ st = (cntF (cls m) k : Int) - 1) _ (fun F k st hk hq => .inr ?_) (fun F st hq => ?_) N 1 _ hr1 (by omega) ⟨Nat.le_refl _, rfl⟩
    · obtain ⟨h1, rfl⟩ := hq
      refine ⟨_, ⟨by omega, rfl⟩, ?_⟩
      simp only [ni]
      have hx : ix (z8c m) (k : Int) = ((cls m k : Nat) : Int) := zfb hk
      rw [vz (by omega), zx (ji (by omega)), zx (jb (by omega)), hx, zsr h1]
      rfl
    · obtain ⟨h1, rfl⟩ := hq
      simp only [ni]
      rw [vv (by omega)]
  unfold slices_Max_int
  rw [vv (by omega), zx ⟨by omega, by omega⟩, h0, qf hL]
theorem zoe (hm : MOk m) (hN : 200 ≤ N) : z0t N m = some (zgt m) := by
  have hcl : (z8c m).length = m.rows.length := zfr
  have hr2 := hm.r2
  obtain ⟨j, hj⟩ := zm1 (N := N) hm hN
  unfold z0t
  rw [qf hj, qf (zuj hm hN), zx (jb (by dsimp only; omega))]
  unfold zgt
  by_cases h : cntF (cls m) m.rows.length = m.rows.length
  · rw [decide_eq_true h, decide_eq_true (by dsimp only; omega)]
  · rw [decide_eq_false h, decide_eq_false (by dsimp only; omega)]
theorem zpb (hm : MOk m) (hN : 200 ≤ N) : z0x N m = some (connB m) := by
  unfold z0x
  rw [qf (zcc hm.small hN), (z1o m).2 hm]; rfl
theorem znx (hm : MOk m) (hN : 200 ≤ N) : z0v N m = some (z9d m) := by
  unfold z0v
  rw [qf (zl2 hm.small hN), zpq hm]
theorem zp0 (hs : Small m) (hN : 200 ≤ N) : z19 N m = some (properM m) := by
  unfold z19 properM
  rw [qf (zcp hs hN)]
  by_cases h : l9 m ≠ 0
  · rw [vz h, if_pos h]
  · rw [vv h, if_neg h]
    have hm := (z1o m).1 (by omega)
    refine (ziy (x := (m, m, m))).trans ?_
    refine (qf (znx hm hN)).trans ?_
    cases z9d m
    · rfl
    refine (cf rfl).trans ?_
    refine (qf (zpb hm hN)).trans ?_
    cases connB m
    · rfl
    refine (cf rfl).trans ?_
    refine (qf (zoe hm hN)).trans ?_
    cases zgt m <;> rfl
theorem zm5 (hs : Small m) (hN : 200 ≤ N) : fu N m = some (properM m) := by
  unfold fu properM
  rw [qf (zpa hs hN)]
  by_cases h : l9 m ≠ 0
  · rw [vz h, if_pos h]
  · rw [vv h, if_neg h]
    have hm := (z1o m).1 (by omega)
    have hr2 := hm.r2
    have hcl : (z8c m).length = m.rows.length := zfr
    refine (qf (ziu hm hN)).trans ?_
    cases z9d m
    · rfl
    refine (cf rfl).trans ?_
    refine (qf (zqk hm hN)).trans ?_
    cases connB m
    · rfl
    refine (cf rfl).trans ?_
    refine (qf (zkc hm hN)).trans ?_
    have hget : ∀ s, s < m.rows.length → ix (z8c m) (s : Int) = ((cls m s : Nat) : Int) := fun s hs => zfb hs
    have hL2 : ∀ s, s < m.rows.length → yo N (z8c m) (s : Int) N 0 = some (if z2n (cls m) s = true then Ex.go () else Ex.rt (Ex.rt 12)) := fun s hs => by
      refine xh (σ := Unit) (fun F t _ => yo N (z8c m) (s : Int) F (t : Int)) s (fun t _ => ∀ u, u < t → cls m u ≠ cls m s) _ (fun F t _ ht hi => ?_) (fun F _ hi => ?_) N 0 () (Nat.zero_le _) (by omega) (fun u hu => by omega)
      · simp only [yo]
        rw [vz (by omega), zx (ji (by omega)), zx (ji (by omega)), hget s hs, hget t (by omega)]
        by_cases e : cls m s = cls m t
        · left
          rw [vz (by omega), if_neg (fun hf => l6.1 hf t ht e.symm)]
        · right
          refine ⟨(), fun u hu => ?_, ?_⟩
          · by_cases e' : u = t
            · subst e'; exact fun h => e h.symm
            · exact hi u (by omega)
          · rw [vv (by omega), zx (jb (by omega))]; rfl
      · simp only [yo]
        rw [vv (by omega), if_pos (l6.2 hi)]
    have hL1 : ym N (z8c m) N 0 = some (if zgt m = true then Ex.go () else Ex.rt 12) := by
      refine xh (σ := Unit) (fun F t _ => ym N (z8c m) F (t : Int)) m.rows.length (fun t _ => ∀ u, u < t → z2n (cls m) u = true) _ (fun F t _ ht hi => ?_) (fun F _ hi => ?_) N 0 () (Nat.zero_le _) (by omega) (fun u hu => by omega)
      · simp only [ym]
        rw [vz (by omega), qf (hL2 t ht)]
        by_cases e : z2n (cls m) t = true
        · right
          refine ⟨(), fun u hu => ?_, ?_⟩
          · by_cases e' : u = t
            · subst e'; exact e
            · exact hi u (by omega)
          · rw [if_pos e, zh1, zx (jb (by omega))]; rfl
        · left
          have : zgt m = false := decide_eq_false fun h => e (zdu.1 h t ht)
          rw [if_neg e, this]; rfl
      · simp only [ym]
        have : zgt m = true := decide_eq_true (zdu.2 hi)
        rw [vv (by omega), if_pos this]
    refine (qf hL1).trans ?_
    cases zgt m <;> rfl
end
/-! ### Homomorphisms -/
section
variable {N : Nat} {a b : Mach} {f : List Int}
structure HOk (a b : Mach) (f : List Int) : Prop where
  ha : MOk a
  hb : MOk b
  hi : a.inputs = b.inputs
  hl : f.length = a.rows.length
  hr : ∀ k, k < f.length → 0 ≤ f.getD k default ∧ f.getD k default < b.rows.length
end
end GV
end Go.Proofs.Ytplgbkaollfmkaa
