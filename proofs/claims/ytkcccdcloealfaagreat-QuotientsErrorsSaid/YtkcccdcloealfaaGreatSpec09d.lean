import Derived.Test.YtkcccdcloealfaaGreatSpec09c
import Derived.Test.YtkcccdcloealfaaGreatLaw04c
import Derived.Test.YtkcccdcloealfaaGreatSpec06l
set_option linter.unusedVariables false
set_option linter.unusedSimpArgs false
namespace Go.Proofs.YtkcccdcloealfaaGreat
namespace GV
set_option maxRecDepth 100000
theorem zxu {m : Mach} (hok : MOk m) : zma m = z7j m := by
  have hc : ow m = 0 := (z1q m).2 hok
  have hmul := hok.mul
  have hdu := zm5 hok m.rows.length (Nat.le_refl _)
  have hU : (znn m).length = (z7m m (m.rows.length * m.inputs.toNat)).length := rfl
  have hD : zv4 m = zbn m m.rows.length := rfl
  unfold zma z7j
  rw [if_neg (by rw [hc]; simp), hmul.2]
  by_cases h : (znn m).length = 0
  · rw [decide_eq_true (by omega), decide_eq_true (by omega)]
  · rw [decide_eq_false (by omega), decide_eq_false (by omega)]
theorem ze5 {κ : Type} [DecidableEq κ] {f : Nat → κ} : ∀ {n : Nat}, cntF f n = n ↔ ∀ u, u < n → z1a f u = true
  | 0 => ⟨fun _ u hu => by omega, fun _ => rfl⟩
  | n + 1 => by
    have ih := ze5 (f := f) (n := n)
    have hle := z88 f n
    have hs : cntF f (n + 1) = cntF f n + if z1a f n = true then 1 else 0 := rfl
    by_cases h : z1a f n = true
    · rw [if_pos h] at hs
      rw [hs]
      constructor
      · intro e u hu
        by_cases e' : u = n
        · subst e'; exact h
        · exact ih.1 (by omega) u (by omega)
      · intro e
        have := ih.2 fun u hu => e u (by omega)
        omega
    · rw [if_neg h] at hs
      rw [hs]
      exact ⟨fun e => by omega, fun e => absurd (e n (by omega)) h⟩
theorem zt6 {m : Mach} {k : Nat} (hk : 1 ≤ k) : max ((cntF (cls m) k : Int) - 1) (cls m k : Int) = (cntF (cls m) (k + 1) : Int) - 1 := by
  have hs : cntF (cls m) (k + 1) = cntF (cls m) k + if z1a (cls m) k = true then 1 else 0 := rfl
  have hn := z9z (m := m) k
  by_cases h : z1a (cls m) k = true
  · rw [if_pos h] at hs
    rw [z97 h] at hn
    omega
  · rw [if_neg h] at hs
    have h1 := z3b (cls m) k
    have h2 := z6n (cls m) k
    have h3 : z6h (cls m) k ≠ k := fun e => h (by rw [e] at h2; exact h2)
    have h4 := z94 (cls m) (show z6h (cls m) k < k by omega) h2
    have h5 : cntF (cls m) (z6h (cls m) k) = cls m k := hn
    omega
def zi6 (m : Mach) : Bool := decide (cntF (cls m) m.rows.length = m.rows.length)
noncomputable def minB (m : Mach) : Bool := connB m && zi6 m
noncomputable def properM (m : Mach) : Int := if ow m ≠ 0 then ow m else if z7j m = false then 9 else if connB m = false then 11 else if zi6 m = false then 12 else 0
section
variable {N : Nat} {m : Mach}
theorem zs6 (f : Nat → Nat) : cntF f 1 = 1 := by
  have : z1a f 0 = true := av.2 fun t ht => by omega
  show 0 + (if z1a f 0 = true then 1 else 0) = 1
  rw [if_pos this]
theorem q2e (hm : MOk m) (hN : 200 ≤ N) : slices_Max_int N (z0o m) = some ((cntF (cls m) m.rows.length : Int) - 1) := by
  have hcl : (z0o m).length = m.rows.length := z5g
  have hr1 := hm.r1; have hr2 := hm.r2
  have h0 : ix (z0o m) 0 = (cntF (cls m) 1 : Int) - 1 := by
    have : ix (z0o m) 0 = ((cls m 0 : Nat) : Int) := z5h (s := 0) (by omega)
    rw [this, zcx, zs6]; rfl
  have hL : il N (z0o m) N ((cntF (cls m) 1 : Int) - 1) 1 = some ((cntF (cls m) m.rows.length : Int) - 1) := by
    refine ui (σ := Int) (fun F k st => il N (z0o m) F st (k : Int)) m.rows.length (fun k st => 1 ≤ k ∧ st = (cntF (cls m) k : Int) - 1) _ (fun F k st hk hq => .inr ?_) (fun F st hq => ?_) N 1 _ hr1 (by omega) ⟨Nat.le_refl _, rfl⟩
    · obtain ⟨h1, rfl⟩ := hq
      refine ⟨_, ⟨by omega, rfl⟩, ?_⟩
      simp only [il]
      have hx : ix (z0o m) (k : Int) = ((cls m k : Nat) : Int) := z5h hk
      rw [wu (by omega), zq (qo (by omega)), zq (qy (by omega)), hx, zt6 h1]
      rfl
    · obtain ⟨h1, rfl⟩ := hq
      simp only [il]
      rw [uo (by omega)]
  unfold slices_Max_int
  rw [uo (by omega), zq ⟨by omega, by omega⟩, h0, zy hL]
theorem zlv (hm : MOk m) (hN : 200 ≤ N) : z1m N m = some (zi6 m) := by
  have hcl : (z0o m).length = m.rows.length := z5g
  have hr2 := hm.r2
  obtain ⟨j, hj⟩ := zit (N := N) hm hN
  unfold z1m
  rw [zy hj, zy (q2e hm hN), zq (qy (by dsimp only; omega))]
  unfold zi6
  by_cases h : cntF (cls m) m.rows.length = m.rows.length
  · rw [decide_eq_true h, decide_eq_true (by dsimp only; omega)]
  · rw [decide_eq_false h, decide_eq_false (by dsimp only; omega)]
theorem zlz (hm : MOk m) (hN : 200 ≤ N) : z1k N m = some (connB m) := by
  unfold z1k
  rw [zy (zn3 hm.small hN), (z1q m).2 hm]; rfl
theorem zvi (hm : MOk m) (hN : 200 ≤ N) : z3g N m = some (z7j m) := by
  unfold z3g
  rw [zy (zp3 hm.small hN), zxu hm]
theorem ziu (hm : MOk m) (hN : 200 ≤ N) : vo N m = some (minB m, 0) := by
  unfold vo
  rw [zy (zb0 hm hN), uo (by simp)]
  refine (zkn (x := (m, m, m))).trans ?_
  refine (zy (zlz hm hN)).trans ?_
  refine (zb1 (fun _ => zlv hm hN)).trans ?_
  unfold minB
  cases connB m <;> rfl
theorem zuj (hs : Small m) (hN : 200 ≤ N) (h : ow m ≠ 0) : vo N m = some (false, ow m) := by
  unfold vo
  rw [zy (z5m hs hN), wu h]
theorem zhq (hs : Small m) (hN : 200 ≤ N) (h : ow m ≠ 0) : z1b N m = some (⟨0, 0, []⟩, [], ow m) := by
  unfold z1b
  have : z0p N m = some ([], 0, ow m) := by
    unfold z0p
    rw [zy (z5m hs hN), wu h]
  rw [zy this, wu h]
theorem z7t (hs : Small m) (hN : 200 ≤ N) : wm N m = some (properM m) := by
  unfold wm properM
  rw [zy (z5m hs hN)]
  by_cases h : ow m ≠ 0
  · rw [wu h, if_pos h]
  · rw [uo h, if_neg h]
    have hm := (z1q m).1 (by omega)
    refine (zkn (x := (m, m, m))).trans ?_
    refine (zy (zvi hm hN)).trans ?_
    cases z7j m
    · rfl
    refine (cf rfl).trans ?_
    refine (zy (zlz hm hN)).trans ?_
    cases connB m
    · rfl
    refine (cf rfl).trans ?_
    refine (zy (zlv hm hN)).trans ?_
    cases zi6 m <;> rfl
theorem z9g (hs : Small m) (hN : 200 ≤ N) : xu N m = some (properM m) := by
  unfold xu properM
  rw [zy (zlt hs hN)]
  by_cases h : ow m ≠ 0
  · rw [wu h, if_pos h]
  · rw [uo h, if_neg h]
    have hm := (z1q m).1 (by omega)
    have hr2 := hm.r2
    have hcl : (z0o m).length = m.rows.length := z5g
    refine (zy (znk hm hN)).trans ?_
    cases z7j m
    · rfl
    refine (cf rfl).trans ?_
    refine (zy (zir hm hN)).trans ?_
    cases connB m
    · rfl
    refine (cf rfl).trans ?_
    refine (zy (zal hm hN)).trans ?_
    have hget : ∀ s, s < m.rows.length → ix (z0o m) (s : Int) = ((cls m s : Nat) : Int) := fun s hs => z5h hs
    have hL2 : ∀ s, s < m.rows.length → xz N (z0o m) (s : Int) N 0 = some (if z1a (cls m) s = true then Ex.go () else Ex.rt (Ex.rt 12)) := fun s hs => by
      refine ui (σ := Unit) (fun F t _ => xz N (z0o m) (s : Int) F (t : Int)) s (fun t _ => ∀ u, u < t → cls m u ≠ cls m s) _ (fun F t _ ht hi => ?_) (fun F _ hi => ?_) N 0 () (Nat.zero_le _) (by omega) (fun u hu => by omega)
      · simp only [xz]
        rw [wu (by omega), zq (qo (by omega)), zq (qo (by omega)), hget s hs, hget t (by omega)]
        by_cases e : cls m s = cls m t
        · left
          rw [wu (by omega), if_neg (fun hf => av.1 hf t ht e.symm)]
        · right
          refine ⟨(), fun u hu => ?_, ?_⟩
          · by_cases e' : u = t
            · subst e'; exact fun h => e h.symm
            · exact hi u (by omega)
          · rw [uo (by omega), zq (qy (by omega))]; rfl
      · simp only [xz]
        rw [uo (by omega), if_pos (av.2 hi)]
    have hL1 : gq N (z0o m) N 0 = some (if zi6 m = true then Ex.go () else Ex.rt 12) := by
      refine ui (σ := Unit) (fun F t _ => gq N (z0o m) F (t : Int)) m.rows.length (fun t _ => ∀ u, u < t → z1a (cls m) u = true) _ (fun F t _ ht hi => ?_) (fun F _ hi => ?_) N 0 () (Nat.zero_le _) (by omega) (fun u hu => by omega)
      · simp only [gq]
        rw [wu (by omega), zy (hL2 t ht)]
        by_cases e : z1a (cls m) t = true
        · right
          refine ⟨(), fun u hu => ?_, ?_⟩
          · by_cases e' : u = t
            · subst e'; exact e
            · exact hi u (by omega)
          · rw [if_pos e, zkv, zq (qy (by omega))]; rfl
        · left
          have : zi6 m = false := decide_eq_false fun h => e (ze5.1 h t ht)
          rw [if_neg e, this]; rfl
      · simp only [gq]
        have : zi6 m = true := decide_eq_true (ze5.2 hi)
        rw [uo (by omega), if_pos this]
    refine (zy hL1).trans ?_
    cases zi6 m <;> rfl
end
/-! ### Homomorphisms -/
def zzg (a b : Mach) (f : List Int) (s i : Nat) : Bool := decide ((if ed a s i = -1 then -1 else f.getD (ed a s i).toNat default) = ed b (f.getD s default).toNat i ∧ ou a s i = ou b (f.getD s default).toNat i)
def q00 (a b : Mach) (f : List Int) (s : Nat) : Bool := (List.range a.inputs.toNat).all (zzg a b f s)
def zw4 (a b : Mach) (f : List Int) : Bool := decide (f.getD 0 default = 0) && (List.range a.rows.length).all (q00 a b f)
theorem zpw (p : Nat → Bool) (k : Nat) : (List.range (k + 1)).all p = ((List.range k).all p && p k) := by
  rw [List.range_succ, List.all_append]; simp
section
variable {N : Nat} {a b : Mach} {f : List Int}
structure HOk (a b : Mach) (f : List Int) : Prop where
  ha : MOk a
  hb : MOk b
  hi : a.inputs = b.inputs
  hl : f.length = a.rows.length
  hr : ∀ k, k < f.length → 0 ≤ f.getD k default ∧ f.getD k default < b.rows.length
theorem q1y (h : HOk a b f) (hN : 200 ≤ N) {s : Nat} (hs : s < a.rows.length) (z : Bool) : xe N a b f (s : Int) N z 0 = some (z && q00 a b f s) := by
  have hrow := h.ha.row s hs
  have hi2 := h.ha.i2
  have hl := h.hl; have hi := h.hi
  have hfs := h.hr s (by omega)
  have hrb := h.hb.row (f.getD s default).toNat (by omega)
  have hix : ix a.rows (s : Int) = a.rows.getD s default := rfl
  have hfx : ix f (s : Int) = f.getD s default := rfl
  refine ui (σ := Bool) (fun F k st => xe N a b f (s : Int) F st (k : Int)) a.inputs.toNat (fun k st => st = (z && (List.range k).all (zzg a b f s))) _ (fun F k st hk hq => .inr ?_) (fun F st hq => ?_) N 0 z (Nat.zero_le _) (by omega) (by simp)
  · subst hq
    refine ⟨_, rfl, ?_⟩
    simp only [xe]
    have hbx : ix b.rows (f.getD s default) = b.rows.getD (f.getD s default).toNat default := rfl
    have hex : ix (a.rows.getD s default) (k : Int) = ⟨ed a s k, ou a s k⟩ := rfl
    have hey : ix (b.rows.getD (f.getD s default).toNat default) (k : Int) = ⟨ed b (f.getD s default).toNat k, ou b (f.getD s default).toNat k⟩ := rfl
    rw [hix, wu (by omega), zq (qo (by omega)), hex]
    refine (zy (x := if ed a s k = -1 then -1 else f.getD (ed a s k).toNat default) ?_).trans ?_
    · rcases z4h h.ha hs hk with e | ⟨e1, e2⟩
      · rw [uo (fun h => h e), if_pos e]; exact congrArg some e
      · rw [wu (show ed a s k ≠ -1 by omega), zq ⟨e1, by show ed a s k < (f.length : Int); omega⟩, if_neg (by omega)]; rfl
    · rw [zq (fun _ => qo (by omega)), hfx, zq (fun _ => ⟨hfs.1, hfs.2⟩), hbx, zq (fun _ => qo (by omega)), hey, zq (qy (by omega)), zpw, ← Bool.and_assoc]
      rfl
  · subst hq
    simp only [xe]
    rw [hix, uo (by omega)]; rfl
theorem q1l (h : HOk a b f) (hN : 200 ≤ N) : kz N a b f = some (zw4 a b f, 0) := by
  have hl := h.hl
  have hr1 := h.ha.r1; have hr2 := h.ha.r2
  have hL : xk N a b f N (decide (ix f 0 = 0)) 0 = some (zw4 a b f) := by
    refine ui (σ := Bool) (fun F k st => xk N a b f F st (k : Int)) a.rows.length (fun k st => st = (decide (f.getD 0 default = 0) && (List.range k).all (q00 a b f))) _ (fun F k st hk hq => .inr ?_) (fun F st hq => ?_) N 0 _ (Nat.zero_le _) (by omega) (by simp [ix])
    · subst hq
      refine ⟨_, rfl, ?_⟩
      simp only [xk]
      rw [wu (by omega)]
      refine (zy ((zq (qo hk)).trans (q1y h hN hk _))).trans ?_
      rw [zq (qy (by omega)), zpw, ← Bool.and_assoc]; rfl
    · subst hq
      simp only [xk]
      rw [uo (by omega)]; rfl
  have hany : f.any (fun t => decide (t < 0) || decide ((b.rows.length : Int) ≤ t)) = false := (zfh _ _).2 fun k hk => by
    have := h.hr k hk
    rw [decide_eq_false (by omega), decide_eq_false (by omega)]; rfl
  unfold kz
  rw [zy (zb0 h.ha hN), zy (zb0 h.hb hN), zy (zgn hN 0), uo (by simp), uo (fun e => e h.hi), uo (by omega), zy (zls (p := fun t => decide (t < 0) || decide ((b.rows.length : Int) ≤ t)) (fun k hk => rfl) (by omega) (by omega)), cf hany, zq ⟨by omega, by omega⟩, zy hL]
theorem zzd (ha : MOk a) (hb : MOk b) (hN : 200 ≤ N) (hf : f.length ≤ 100) {e : Int} (h : e = if a.inputs ≠ b.inputs then 5 else if f.length ≠ a.rows.length then 16 else if f.any (fun t => decide (t < 0) || decide ((b.rows.length : Int) ≤ t)) = true then 1 else 0) (he : e ≠ 0) : kz N a b f = some (false, e) := by
  unfold kz
  rw [zy (zb0 ha hN), zy (zb0 hb hN), zy (zgn hN 0), uo (by simp)]
  by_cases h1 : a.inputs ≠ b.inputs
  · rw [if_pos h1] at h; rw [wu h1, h]
  rw [if_neg h1] at h
  rw [uo h1]
  by_cases h2 : f.length ≠ a.rows.length
  · rw [if_pos h2] at h; rw [wu (by omega), h]
  rw [if_neg h2] at h
  rw [uo (by omega), zy (zls (p := fun t => decide (t < 0) || decide ((b.rows.length : Int) ≤ t)) (fun k hk => rfl) (by omega) (by omega))]
  by_cases h3 : f.any (fun t => decide (t < 0) || decide ((b.rows.length : Int) ≤ t)) = true
  · rw [if_pos h3] at h; rw [ct h3, h]
  · rw [if_neg h3] at h; exact absurd h he
theorem ztb {e : Int} (ha : Small a) (hb : Small b) (hN : 200 ≤ N) (h : ow a = 0 ∧ ow b = e ∨ ow a = e) (he : e ≠ 0) : kz N a b f = some (false, e) := by
  unfold kz
  rw [zy (z5m ha hN), zy (z5m hb hN)]
  rcases h with ⟨h1, h2⟩ | h
  · rw [h1, h2, zy (zgn hN e), wu he]
  · rw [h, zy (zwb hN he _), wu he]
theorem zye (h : HOk a b f) {s i : Nat} (hs : s < a.rows.length) (hi : i < a.inputs.toNat) : zzg a b f s i = true ↔ ou a s i = ou b (f.getD s default).toNat i ∧ (0 ≤ ed a s i → f.getD (ed a s i).toNat default = ed b (f.getD s default).toNat i) := by
  have hl := h.hl; have hin := h.hi
  have hfs := h.hr s (by omega)
  have o1 := (zgq h.ha hs hi).1
  have o2 := (zgq h.hb (s := (f.getD s default).toNat) (i := i) (by omega) (by omega)).1
  unfold zzg
  rw [decide_eq_true_iff]
  constructor
  · rintro ⟨h1, h2⟩
    refine ⟨h2, fun h0 => ?_⟩
    rw [if_neg (by omega)] at h1; exact h1
  · rintro ⟨h1, h2⟩
    refine ⟨?_, h1⟩
    rcases z4h h.ha hs hi with e | ⟨e1, _⟩
    · rw [if_pos e]; exact (o2.2 (by rw [← h1]; exact o1.1 e)).symm
    · rw [if_neg (by omega)]; exact h2 e1
end
end GV
end Go.Proofs.YtkcccdcloealfaaGreat
