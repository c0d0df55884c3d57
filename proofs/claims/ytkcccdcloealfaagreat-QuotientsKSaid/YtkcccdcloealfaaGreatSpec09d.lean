import Derived.Test.YtkcccdcloealfaaGreatSpec09c
import Derived.Test.YtkcccdcloealfaaGreatLaw04c
import Derived.Test.YtkcccdcloealfaaGreatSpec06l
set_option linter.unusedVariables false
set_option linter.unusedSimpArgs false
namespace Go.Proofs.YtkcccdcloealfaaGreat
namespace GV
set_option maxRecDepth 100000
theorem zxu {m : Mach} (hok : MOk m) : zma m = z7j m := by
  have hc : ow m = 0 := (z1q m).2 hok
  have hmul := hok.mul
  have hdu := zm5 hok m.rows.length (Nat.le_refl _)
  have hU : (znn m).length = (z7m m (m.rows.length * m.inputs.toNat)).length := rfl
  have hD : zv4 m = zbn m m.rows.length := rfl
  unfold zma z7j
  rw [if_neg (by rw [hc]; simp), hmul.2]
  by_cases h : (znn m).length = 0
  · rw [decide_eq_true (by omega), decide_eq_true (by omega)]
  · rw [decide_eq_false (by omega), decide_eq_false (by omega)]
theorem zrg {m : Mach} (hm : MOk m) (h : ∀ s i, s < m.rows.length → i < m.inputs.toNat → 0 ≤ ed m s i) : z7j m = true := by
  have h1 := hm.i1
  have e : ∀ k, k ≤ m.rows.length → zbn m k = k * m.inputs.toNat := by
    intro k
    induction k with
    | zero => intro _; simp [zbn]
    | succ k ih =>
      intro hk
      have hrow := hm.row k (by omega)
      rw [zbk m k (by omega), ih (by omega), zk1 (fun i hi => h k i (by omega) (by omega)) _ (Nat.le_refl _), Nat.succ_mul]
      omega
  unfold z7j zv4
  rw [e _ (Nat.le_refl _), hm.mul.2]
  exact decide_eq_true rfl
theorem ze5 {κ : Type} [DecidableEq κ] {f : Nat → κ} : ∀ {n : Nat}, cntF f n = n ↔ ∀ u, u < n → z1a f u = true
  | 0 => ⟨fun _ u hu => by omega, fun _ => rfl⟩
  | n + 1 => by
    have ih := ze5 (f := f) (n := n)
    have hle := z88 f n
    have hs : cntF f (n + 1) = cntF f n + if z1a f n = true then 1 else 0 := rfl
    by_cases h : z1a f n = true
    · rw [if_pos h] at hs
      rw [hs]
      constructor
      · intro e u hu
        by_cases e' : u = n
        · subst e'; exact h
        · exact ih.1 (by omega) u (by omega)
      · intro e
        have := ih.2 fun u hu => e u (by omega)
        omega
    · rw [if_neg h] at hs
      rw [hs]
      exact ⟨fun e => by omega, fun e => absurd (e n (by omega)) h⟩
theorem zt6 {m : Mach} {k : Nat} (hk : 1 ≤ k) : max ((cntF (cls m) k : Int) - 1) (cls m k : Int) = (cntF (cls m) (k + 1) : Int) - 1 := by
  have hs : cntF (cls m) (k + 1) = cntF (cls m) k + if z1a (cls m) k = true then 1 else 0 := rfl
  have hn := z9z (m := m) k
  by_cases h : z1a (cls m) k = true
  · rw [if_pos h] at hs
    rw [z97 h] at hn
    omega
  · rw [if_neg h] at hs
    have h1 := z3b (cls m) k
    have h2 := z6n (cls m) k
    have h3 : z6h (cls m) k ≠ k := fun e => h (by rw [e] at h2; exact h2)
    have h4 := z94 (cls m) (show z6h (cls m) k < k by omega) h2
    have h5 : cntF (cls m) (z6h (cls m) k) = cls m k := hn
    omega
def zi6 (m : Mach) : Bool := decide (cntF (cls m) m.rows.length = m.rows.length)
noncomputable def properM (m : Mach) : Int := if ow m ≠ 0 then ow m else if z7j m = false then 9 else if connB m = false then 11 else if zi6 m = false then 12 else 0
section
variable {N : Nat} {m : Mach}
theorem zs6 (f : Nat → Nat) : cntF f 1 = 1 := by
  have : z1a f 0 = true := av.2 fun t ht => by omega
  show 0 + (if z1a f 0 = true then 1 else 0) = 1
  rw [if_pos this]
theorem q2e (hm : MOk m) (hN : 200 ≤ N) : slices_Max_int N (z0o m) = some ((cntF (cls m) m.rows.length : Int) - 1) := by
  have hcl : (z0o m).length = m.rows.length := z5g
  have hr1 := hm.r1; have hr2 := hm.r2
  have h0 : ix (z0o m) 0 = (cntF (cls m) 1 : Int) - 1 := by
    have : ix (z0o m) 0 = ((cls m 0 : Nat) : Int) := z5h (s := 0) (by omega)
    rw [this, zcx, zs6]; rfl
  have hL : il N (z0o m) N ((cntF (cls m) 1 : Int) - 1) 1 = some ((cntF (cls m) m.rows.length : Int) - 1) := by
    refine ui (σ := Int) (fun F k st => il N (z0o m) F st (k : Int)) m.rows.length (fun k st => 1 ≤ k ∧ st = (cntF (cls m) k : Int) - 1) _ (fun F k st hk hq => .inr ?_) (fun F st hq => ?_) N 1 _ hr1 (by omega) ⟨Nat.le_refl _, rfl⟩
    · obtain ⟨h1, rfl⟩ := hq
      refine ⟨_, ⟨by omega, rfl⟩, ?_⟩
      simp only [il]
      have hx : ix (z0o m) (k : Int) = ((cls m k : Nat) : Int) := z5h hk
      rw [wu (by omega), zq (qo (by omega)), zq (qy (by omega)), hx, zt6 h1]
      rfl
    · obtain ⟨h1, rfl⟩ := hq
      simp only [il]
      rw [uo (by omega)]
  unfold slices_Max_int
  rw [uo (by omega), zq ⟨by omega, by omega⟩, h0, zy hL]
theorem zlv (hm : MOk m) (hN : 200 ≤ N) : z1m N m = some (zi6 m) := by
  have hcl : (z0o m).length = m.rows.length := z5g
  have hr2 := hm.r2
  obtain ⟨j, hj⟩ := zit (N := N) hm hN
  unfold z1m
  rw [zy hj, zy (q2e hm hN), zq (qy (by dsimp only; omega))]
  unfold zi6
  by_cases h : cntF (cls m) m.rows.length = m.rows.length
  · rw [decide_eq_true h, decide_eq_true (by dsimp only; omega)]
  · rw [decide_eq_false h, decide_eq_false (by dsimp only; omega)]
theorem zlz (hm : MOk m) (hN : 200 ≤ N) : z1k N m = some (connB m) := by
  unfold z1k
  rw [zy (zn3 hm.small hN), (z1q m).2 hm]; rfl
theorem zvi (hm : MOk m) (hN : 200 ≤ N) : z3g N m = some (z7j m) := by
  unfold z3g
  rw [zy (zp3 hm.small hN), zxu hm]
theorem z7t (hs : Small m) (hN : 200 ≤ N) : wm N m = some (properM m) := by
  unfold wm properM
  rw [zy (z5m hs hN)]
  by_cases h : ow m ≠ 0
  · rw [wu h, if_pos h]
  · rw [uo h, if_neg h]
    have hm := (z1q m).1 (by omega)
    refine (zkn (x := (m, m, m))).trans ?_
    refine (zy (zvi hm hN)).trans ?_
    cases z7j m
    · rfl
    refine (cf rfl).trans ?_
    refine (zy (zlz hm hN)).trans ?_
    cases connB m
    · rfl
    refine (cf rfl).trans ?_
    refine (zy (zlv hm hN)).trans ?_
    cases zi6 m <;> rfl
theorem z9g (hs : Small m) (hN : 200 ≤ N) : xu N m = some (properM m) := by
  unfold xu properM
  rw [zy (zlt hs hN)]
  by_cases h : ow m ≠ 0
  · rw [wu h, if_pos h]
  · rw [uo h, if_neg h]
    have hm := (z1q m).1 (by omega)
    have hr2 := hm.r2
    have hcl : (z0o m).length = m.rows.length := z5g
    refine (zy (znk hm hN)).trans ?_
    cases z7j m
    · rfl
    refine (cf rfl).trans ?_
    refine (zy (zir hm hN)).trans ?_
    cases connB m
    · rfl
    refine (cf rfl).trans ?_
    refine (zy (zal hm hN)).trans ?_
    have hget : ∀ s, s < m.rows.length → ix (z0o m) (s : Int) = ((cls m s : Nat) : Int) := fun s hs => z5h hs
    have hL2 : ∀ s, s < m.rows.length → xz N (z0o m) (s : Int) N 0 = some (if z1a (cls m) s = true then Ex.go () else Ex.rt (Ex.rt 12)) := fun s hs => by
      refine ui (σ := Unit) (fun F t _ => xz N (z0o m) (s : Int) F (t : Int)) s (fun t _ => ∀ u, u < t → cls m u ≠ cls m s) _ (fun F t _ ht hi => ?_) (fun F _ hi => ?_) N 0 () (Nat.zero_le _) (by omega) (fun u hu => by omega)
      · simp only [xz]
        rw [wu (by omega), zq (qo (by omega)), zq (qo (by omega)), hget s hs, hget t (by omega)]
        by_cases e : cls m s = cls m t
        · left
          rw [wu (by omega), if_neg (fun hf => av.1 hf t ht e.symm)]
        · right
          refine ⟨(), fun u hu => ?_, ?_⟩
          · by_cases e' : u = t
            · subst e'; exact fun h => e h.symm
            · exact hi u (by omega)
          · rw [uo (by omega), zq (qy (by omega))]; rfl
      · simp only [xz]
        rw [uo (by omega), if_pos (av.2 hi)]
    have hL1 : gq N (z0o m) N 0 = some (if zi6 m = true then Ex.go () else Ex.rt 12) := by
      refine ui (σ := Unit) (fun F t _ => gq N (z0o m) F (t : Int)) m.rows.length (fun t _ => ∀ u, u < t → z1a (cls m) u = true) _ (fun F t _ ht hi => ?_) (fun F _ hi => ?_) N 0 () (Nat.zero_le _) (by omega) (fun u hu => by omega)
      · simp only [gq]
        rw [wu (by omega), zy (hL2 t ht)]
        by_cases e : z1a (cls m) t = true
        · right
          refine ⟨(), fun u hu => ?_, ?_⟩
          · by_cases e' : u = t
            · subst e'; exact e
            · exact hi u (by omega)
          · rw [if_pos e, zkv, zq (qy (by omega))]; rfl
        · left
          have : zi6 m = false := decide_eq_false fun h => e (ze5.1 h t ht)
          rw [if_neg e, this]; rfl
      · simp only [gq]
        have : zi6 m = true := decide_eq_true (ze5.2 hi)
        rw [uo (by omega), if_pos this]
    refine (zy hL1).trans ?_
    cases zi6 m <;> rfl
end
/-! ### Homomorphisms -/
section
variable {N : Nat} {a b : Mach} {f : List Int}
structure HOk (a b : Mach) (f : List Int) : Prop where
  ha : MOk a
  hb : MOk b
  hi : a.inputs = b.inputs
  hl : f.length = a.rows.length
  hr : ∀ k, k < f.length → 0 ≤ f.getD k default ∧ f.getD k default < b.rows.length
end
end GV
end Go.Proofs.YtkcccdcloealfaaGreat
