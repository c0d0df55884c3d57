import Derived.Test.YtkcccdcloealfaaSpec09c
import Derived.Test.YtkcccdcloealfaaLaw04c
import Derived.Test.YtkcccdcloealfaaSpec06l
set_option linter.unusedVariables false
set_option linter.unusedSimpArgs false
namespace Go.Proofs.Ytkcccdcloealfaa
namespace GV
set_option maxRecDepth 100000
theorem z8w {κ : Type} [DecidableEq κ] {f : Nat → κ} : ∀ {n : Nat}, cntF f n = n ↔ ∀ u, u < n → iy f u = true
  | 0 => ⟨fun _ u hu => by omega, fun _ => rfl⟩
  | n + 1 => by
    have ih := z8w (f := f) (n := n)
    have hle := z6u f n
    have hs : cntF f (n + 1) = cntF f n + if iy f n = true then 1 else 0 := rfl
    by_cases h : iy f n = true
    · rw [if_pos h] at hs
      rw [hs]
      constructor
      · intro e u hu
        by_cases e' : u = n
        · subst e'; exact h
        · exact ih.1 (by omega) u (by omega)
      · intro e
        have := ih.2 fun u hu => e u (by omega)
        omega
    · rw [if_neg h] at hs
      rw [hs]
      exact ⟨fun e => by omega, fun e => absurd (e n (by omega)) h⟩
theorem zsc {m : Mach} {k : Nat} (hk : 1 ≤ k) : max ((cntF (cls m) k : Int) - 1) (cls m k : Int) = (cntF (cls m) (k + 1) : Int) - 1 := by
  have hs : cntF (cls m) (k + 1) = cntF (cls m) k + if iy (cls m) k = true then 1 else 0 := rfl
  have hn := z4v (m := m) k
  by_cases h : iy (cls m) k = true
  · rw [if_pos h] at hs
    rw [z6f h] at hn
    omega
  · rw [if_neg h] at hs
    have h1 := rf (cls m) k
    have h2 := z2e (cls m) k
    have h3 : z1t (cls m) k ≠ k := fun e => h (by rw [e] at h2; exact h2)
    have h4 := z3t (cls m) (show z1t (cls m) k < k by omega) h2
    have h5 : cntF (cls m) (z1t (cls m) k) = cls m k := hn
    omega
def zqp (m : Mach) : Bool := decide (cntF (cls m) m.rows.length = m.rows.length)
noncomputable def minB (m : Mach) : Bool := connB m && zqp m
section
variable {N : Nat} {m : Mach}
theorem zt3 (f : Nat → Nat) : cntF f 1 = 1 := by
  have : iy f 0 = true := pu.2 fun t ht => by omega
  show 0 + (if iy f 0 = true then 1 else 0) = 1
  rw [if_pos this]
theorem zuj (hm : MOk m) (hN : 200 ≤ N) : slices_Max_int N (z1u m) = some ((cntF (cls m) m.rows.length : Int) - 1) := by
  have hcl : (z1u m).length = m.rows.length := z7z
  have hr1 := hm.r1; have hr2 := hm.r2
  have h0 : ix (z1u m) 0 = (cntF (cls m) 1 : Int) - 1 := by
    have : ix (z1u m) 0 = ((cls m 0 : Nat) : Int) := z8i (s := 0) (by omega)
    rw [this, zed, zt3]; rfl
  have hL : bf N (z1u m) N ((cntF (cls m) 1 : Int) - 1) 1 = some ((cntF (cls m) m.rows.length : Int) - 1) := by
    refine xc (σ := Int) (fun F k st => bf N (z1u m) F st (k : Int)) m.rows.length (fun k st => 1 ≤ k ∧ st = (cntF (cls m) k : Int) - 1) _ (fun F k st hk hq => .inr ?_) (fun F st hq => ?_) N 1 _ hr1 (by omega) ⟨Nat.le_refl _, rfl⟩
    · obtain ⟨h1, rfl⟩ := hq
      refine ⟨_, ⟨by omega, rfl⟩, ?_⟩
      simp only [bf]
      have hx : ix (z1u m) (k : Int) = ((cls m k : Nat) : Int) := z8i hk
      rw [dn (by omega), zu (j5 (by omega)), zu (jg (by omega)), hx, zsc h1]
      rfl
    · obtain ⟨h1, rfl⟩ := hq
      simp only [bf]
      rw [xw (by omega)]
  unfold slices_Max_int
  rw [xw (by omega), zu ⟨by omega, by omega⟩, h0, qf hL]
theorem zoh (hm : MOk m) (hN : 200 ≤ N) : oq N m = some (zqp m) := by
  have hcl : (z1u m).length = m.rows.length := z7z
  have hr2 := hm.r2
  obtain ⟨j, hj⟩ := zee (N := N) hm hN
  unfold oq
  rw [qf hj, qf (zuj hm hN), zu (jg (by dsimp only; omega))]
  unfold zqp
  by_cases h : cntF (cls m) m.rows.length = m.rows.length
  · rw [decide_eq_true h, decide_eq_true (by dsimp only; omega)]
  · rw [decide_eq_false h, decide_eq_false (by dsimp only; omega)]
theorem zoo (hm : MOk m) (hN : 200 ≤ N) : oo N m = some (connB m) := by
  unfold oo
  rw [qf (zhf hm.small hN), (z7e m).2 hm]; rfl
theorem zqr (hm : MOk m) (hN : 200 ≤ N) : gz N m = some (minB m, 0) := by
  unfold gz
  rw [qf (z5s hm hN), xw (by simp)]
  refine (ztz (x := (m, m, m))).trans ?_
  refine (qf (zoo hm hN)).trans ?_
  refine (zeq (fun _ => zoh hm hN)).trans ?_
  unfold minB
  cases connB m <;> rfl
end
/-! ### Homomorphisms -/
def zks (a b : Mach) (f : List Int) (s i : Nat) : Bool := decide ((if ed a s i = -1 then -1 else f.getD (ed a s i).toNat default) = ed b (f.getD s default).toNat i ∧ ou a s i = ou b (f.getD s default).toNat i)
def zej (a b : Mach) (f : List Int) (s : Nat) : Bool := (List.range a.inputs.toNat).all (zks a b f s)
def zco (a b : Mach) (f : List Int) : Bool := decide (f.getD 0 default = 0) && (List.range a.rows.length).all (zej a b f)
theorem zbn (p : Nat → Bool) (k : Nat) : (List.range (k + 1)).all p = ((List.range k).all p && p k) := by
  rw [List.range_succ, List.all_append]; simp
section
variable {N : Nat} {a b : Mach} {f : List Int}
structure HOk (a b : Mach) (f : List Int) : Prop where
  ha : MOk a
  hb : MOk b
  hi : a.inputs = b.inputs
  hl : f.length = a.rows.length
  hr : ∀ k, k < f.length → 0 ≤ f.getD k default ∧ f.getD k default < b.rows.length
theorem zuk (h : HOk a b f) (hN : 200 ≤ N) {s : Nat} (hs : s < a.rows.length) (z : Bool) : uz N a b f (s : Int) N z 0 = some (z && zej a b f s) := by
  have hrow := h.ha.row s hs
  have hi2 := h.ha.i2
  have hl := h.hl; have hi := h.hi
  have hfs := h.hr s (by omega)
  have hrb := h.hb.row (f.getD s default).toNat (by omega)
  have hix : ix a.rows (s : Int) = a.rows.getD s default := rfl
  have hfx : ix f (s : Int) = f.getD s default := rfl
  refine xc (σ := Bool) (fun F k st => uz N a b f (s : Int) F st (k : Int)) a.inputs.toNat (fun k st => st = (z && (List.range k).all (zks a b f s))) _ (fun F k st hk hq => .inr ?_) (fun F st hq => ?_) N 0 z (Nat.zero_le _) (by omega) (by simp)
  · subst hq
    refine ⟨_, rfl, ?_⟩
    simp only [uz]
    have hbx : ix b.rows (f.getD s default) = b.rows.getD (f.getD s default).toNat default := rfl
    have hex : ix (a.rows.getD s default) (k : Int) = ⟨ed a s k, ou a s k⟩ := rfl
    have hey : ix (b.rows.getD (f.getD s default).toNat default) (k : Int) = ⟨ed b (f.getD s default).toNat k, ou b (f.getD s default).toNat k⟩ := rfl
    rw [hix, dn (by omega), zu (j5 (by omega)), hex]
    refine (qf (x := if ed a s k = -1 then -1 else f.getD (ed a s k).toNat default) ?_).trans ?_
    · rcases z14 h.ha hs hk with e | ⟨e1, e2⟩
      · rw [xw (fun h => h e), if_pos e]; exact congrArg some e
      · rw [dn (show ed a s k ≠ -1 by omega), zu ⟨e1, by show ed a s k < (f.length : Int); omega⟩, if_neg (by omega)]; rfl
    · rw [zu (fun _ => j5 (by omega)), hfx, zu (fun _ => ⟨hfs.1, hfs.2⟩), hbx, zu (fun _ => j5 (by omega)), hey, zu (jg (by omega)), zbn, ← Bool.and_assoc]
      rfl
  · subst hq
    simp only [uz]
    rw [hix, xw (by omega)]; rfl
theorem zr4 (h : HOk a b f) (hN : 200 ≤ N) : u6 N a b f = some (zco a b f, 0) := by
  have hl := h.hl
  have hr1 := h.ha.r1; have hr2 := h.ha.r2
  have hL : wm N a b f N (decide (ix f 0 = 0)) 0 = some (zco a b f) := by
    refine xc (σ := Bool) (fun F k st => wm N a b f F st (k : Int)) a.rows.length (fun k st => st = (decide (f.getD 0 default = 0) && (List.range k).all (zej a b f))) _ (fun F k st hk hq => .inr ?_) (fun F st hq => ?_) N 0 _ (Nat.zero_le _) (by omega) (by simp [ix])
    · subst hq
      refine ⟨_, rfl, ?_⟩
      simp only [wm]
      rw [dn (by omega)]
      refine (qf ((zu (j5 hk)).trans (zuk h hN hk _))).trans ?_
      rw [zu (jg (by omega)), zbn, ← Bool.and_assoc]; rfl
    · subst hq
      simp only [wm]
      rw [xw (by omega)]; rfl
  have hany : f.any (fun t => decide (t < 0) || decide ((b.rows.length : Int) ≤ t)) = false := (z8k _ _).2 fun k hk => by
    have := h.hr k hk
    rw [decide_eq_false (by omega), decide_eq_false (by omega)]; rfl
  unfold u6
  rw [qf (z5s h.ha hN), qf (z5s h.hb hN), qf (zea hN 0), xw (by simp), xw (fun e => e h.hi), xw (by omega), qf (zg5 (p := fun t => decide (t < 0) || decide ((b.rows.length : Int) ≤ t)) (fun k hk => rfl) (by omega) (by omega)), cf hany, zu ⟨by omega, by omega⟩, qf hL]
theorem zsw (ha : MOk a) (hb : MOk b) (hN : 200 ≤ N) (hf : f.length ≤ 100) {e : Int} (h : e = if a.inputs ≠ b.inputs then 5 else if f.length ≠ a.rows.length then 16 else if f.any (fun t => decide (t < 0) || decide ((b.rows.length : Int) ≤ t)) = true then 1 else 0) (he : e ≠ 0) : u6 N a b f = some (false, e) := by
  unfold u6
  rw [qf (z5s ha hN), qf (z5s hb hN), qf (zea hN 0), xw (by simp)]
  by_cases h1 : a.inputs ≠ b.inputs
  · rw [if_pos h1] at h; rw [dn h1, h]
  rw [if_neg h1] at h
  rw [xw h1]
  by_cases h2 : f.length ≠ a.rows.length
  · rw [if_pos h2] at h; rw [dn (by omega), h]
  rw [if_neg h2] at h
  rw [xw (by omega), qf (zg5 (p := fun t => decide (t < 0) || decide ((b.rows.length : Int) ≤ t)) (fun k hk => rfl) (by omega) (by omega))]
  by_cases h3 : f.any (fun t => decide (t < 0) || decide ((b.rows.length : Int) ≤ t)) = true
  · rw [if_pos h3] at h; rw [ct h3, h]
  · rw [if_neg h3] at h; exact absurd h he
theorem zen (h : HOk a b f) {s i : Nat} (hs : s < a.rows.length) (hi : i < a.inputs.toNat) : zks a b f s i = true ↔ ou a s i = ou b (f.getD s default).toNat i ∧ (0 ≤ ed a s i → f.getD (ed a s i).toNat default = ed b (f.getD s default).toNat i) := by
  have hl := h.hl; have hin := h.hi
  have hfs := h.hr s (by omega)
  have o1 := (z8j h.ha hs hi).1
  have o2 := (z8j h.hb (s := (f.getD s default).toNat) (i := i) (by omega) (by omega)).1
  unfold zks
  rw [decide_eq_true_iff]
  constructor
  · rintro ⟨h1, h2⟩
    refine ⟨h2, fun h0 => ?_⟩
    rw [if_neg (by omega)] at h1; exact h1
  · rintro ⟨h1, h2⟩
    refine ⟨?_, h1⟩
    rcases z14 h.ha hs hi with e | ⟨e1, _⟩
    · rw [if_pos e]; exact (o2.2 (by rw [← h1]; exact o1.1 e)).symm
    · rw [if_neg (by omega)]; exact h2 e1
theorem zqk (h : HOk a b f) {s i : Nat} (hs : s < a.rows.length) (hi : i < a.inputs.toNat) : (decide (ou a s i ≠ ou b (f.getD s default).toNat i) || (decide (0 ≤ ed a s i) && decide (f.getD (ed a s i).toNat default ≠ ed b (f.getD s default).toNat i))) = !zks a b f s i := by
  rw [Bool.eq_iff_iff, Bool.not_eq_true', ← Bool.not_eq_true, zen h hs hi, Bool.or_eq_true, Bool.and_eq_true, decide_eq_true_iff, decide_eq_true_iff, decide_eq_true_iff]
  constructor
  · rintro (h1 | ⟨h1, h2⟩) ⟨k1, k2⟩
    · exact h1 k1
    · exact h2 (k2 h1)
  · intro k
    by_cases h1 : ou a s i = ou b (f.getD s default).toNat i
    · right
      by_cases h2 : 0 ≤ ed a s i
      · exact ⟨h2, fun h3 => k ⟨h1, fun _ => h3⟩⟩
      · exact absurd ⟨h1, fun h3 => absurd h3 h2⟩ k
    · exact .inl h1
theorem zri (h : HOk a b f) (hN : 200 ≤ N) : pq N a b f = some (if zco a b f = true then 1 else 0) := by
  have hl := h.hl; have hin := h.hi
  have hr1 := h.ha.r1; have hr2 := h.ha.r2; have hi2 := h.ha.i2
  have hL2 : ∀ s, s < a.rows.length → uh N a b f (s : Int) N 0 = some (if zej a b f s = true then Ex.go () else Ex.rt (Ex.rt 0)) := fun s hs => by
    have hrow := h.ha.row s hs
    have hfs := h.hr s (by omega)
    have hrb := h.hb.row (f.getD s default).toNat (by omega)
    have hix : ix a.rows (s : Int) = a.rows.getD s default := rfl
    have hfx : ix f (s : Int) = f.getD s default := rfl
    have hbx : ix b.rows (f.getD s default) = b.rows.getD (f.getD s default).toNat default := rfl
    refine xc (σ := Unit) (fun F k _ => uh N a b f (s : Int) F (k : Int)) a.inputs.toNat (fun k _ => (List.range k).all (zks a b f s) = true) _ (fun F k _ hk hq => ?_) (fun F _ hq => ?_) N 0 () (Nat.zero_le _) (by omega) rfl
    · simp only [uh]
      have hex : ix (a.rows.getD s default) (k : Int) = ⟨ed a s k, ou a s k⟩ := rfl
      have hey : ix (b.rows.getD (f.getD s default).toNat default) (k : Int) = ⟨ed b (f.getD s default).toNat k, ou b (f.getD s default).toNat k⟩ := rfl
      have hnot := zqk h hs hk
      rw [dn (by omega), zu (j5 hs), hix, zu (j5 (by omega)), zu (j5 (by omega)), hfx, zu ⟨hfs.1, hfs.2⟩, hbx, zu (j5 (by omega)), hex, hey]
      have hgd : ∀ {q : Bool}, ((q && (decide (0 ≤ ed a s k) == true)) = true → okI f (ed a s k)) := fun {q} hq => by
        have h0 : 0 ≤ ed a s k := by
          rw [Bool.and_eq_true] at hq
          exact of_decide_eq_true (by simpa using hq.2)
        rcases z14 h.ha hs hk with e | ⟨e1, e2⟩
        · omega
        · exact ⟨e1, by omega⟩
      rw [zu hgd]
      have hfe : ix f (ed a s k) = f.getD (ed a s k).toNat default := rfl
      rw [hfe]
      cases hE : zks a b f s k
      · left
        rw [hE] at hnot
        rw [ct hnot, if_neg]
        intro hR
        have := List.all_eq_true.1 hR k (List.mem_range.2 hk)
        rw [hE] at this; cases this
      · right
        refine ⟨(), by rw [zbn, hq, hE]; rfl, ?_⟩
        rw [hE] at hnot
        rw [cf hnot, zu (jg (by omega))]; rfl
    · simp only [uh]
      rw [xw (by omega), if_pos (show zej a b f s = true from hq)]
  have hL1 : ug N a b f N 0 = some (if (List.range a.rows.length).all (zej a b f) = true then Ex.go () else Ex.rt 0) := by
    refine xc (σ := Unit) (fun F k _ => ug N a b f F (k : Int)) a.rows.length (fun k _ => (List.range k).all (zej a b f) = true) _ (fun F k _ hk hq => ?_) (fun F _ hq => ?_) N 0 () (Nat.zero_le _) (by omega) rfl
    · simp only [ug]
      rw [dn (by omega), qf (hL2 k hk)]
      cases hE : zej a b f k
      · left
        rw [if_neg (by decide), if_neg]
        · rfl
        intro hR
        have := List.all_eq_true.1 hR k (List.mem_range.2 hk)
        rw [hE] at this; cases this
      · right
        refine ⟨(), by rw [zbn, hq, hE]; rfl, ?_⟩
        rw [if_pos rfl, zs6, zu (jg (by omega))]; rfl
    · simp only [ug]
      rw [xw (by omega), if_pos hq]
  have hf0 : ix f 0 = f.getD 0 default := rfl
  unfold pq zco
  rw [zu ⟨by omega, by omega⟩, hf0]
  by_cases e : f.getD 0 default = 0
  · rw [xw (fun h => h e), decide_eq_true e, Bool.true_and, qf hL1]
    cases (List.range a.rows.length).all (zej a b f) <;> rfl
  · rw [dn e, decide_eq_false e, Bool.false_and]; rfl
end
end GV
end Go.Proofs.Ytkcccdcloealfaa
