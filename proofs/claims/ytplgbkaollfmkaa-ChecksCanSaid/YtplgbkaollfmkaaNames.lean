import Derived.Test.YtplgbkaollfmkaaShMap
set_option linter.unusedVariables false
set_option linter.unusedSimpArgs false
namespace Go.Proofs.Ytplgbkaollfmkaa
namespace GV
section names
variable {κ κ' : Type} [DecidableEq κ] [DecidableEq κ']
def z2n (f : Nat → κ) (u : Nat) : Bool := (List.range u).all fun t => decide (f t ≠ f u)
theorem l6 {f : Nat → κ} {u : Nat} : z2n f u = true ↔ ∀ t, t < u → f t ≠ f u := by
  unfold z2n
  rw [List.all_eq_true]
  exact ⟨fun h t ht => of_decide_eq_true (h t (List.mem_range.2 ht)), fun h t ht => decide_eq_true (h t (List.mem_range.1 ht))⟩
def cntF (f : Nat → κ) : Nat → Nat
  | 0 => 0
  | u + 1 => cntF f u + if z2n f u = true then 1 else 0
theorem zet (f : Nat → κ) : ∀ u, cntF f u ≤ u
  | 0 => Nat.le_refl _
  | u + 1 => by have := zet f u; unfold cntF; split <;> omega
theorem cntF_step (f : Nat → κ) (u : Nat) : cntF f u ≤ cntF f (u + 1) := by show _ ≤ cntF f u + _; omega
theorem zp1 (f : Nat → κ) {u v : Nat} (h : u ≤ v) : cntF f u ≤ cntF f v := by
  induction v with
  | zero => rw [show u = 0 by omega]; exact Nat.le_refl _
  | succ v ih =>
    by_cases e : u = v + 1
    · rw [e]; exact Nat.le_refl _
    · exact Nat.le_trans (ih (by omega)) (cntF_step f v)
theorem zf0 (f : Nat → κ) {u v : Nat} (h : u < v) (hf : z2n f u = true) : cntF f u < cntF f v := by
  have h1 := zp1 f (show u + 1 ≤ v by omega)
  have h2 : cntF f (u + 1) = cntF f u + 1 := by show cntF f u + _ = _; rw [if_pos hf]
  omega
theorem zpr {f : Nat → κ} {u v : Nat} (hu : z2n f u = true) (hv : z2n f v = true) (h : cntF f u = cntF f v) : u = v := by
  rcases Nat.lt_trichotomy u v with e | e | e
  · have := zf0 f e hu; omega
  · exact e
  · have := zf0 f e hv; omega
def z7d (f : Nat → κ) (s : Nat) : Nat := ((List.range s).find? fun t => decide (f t = f s)).getD s
theorem z2s (f : Nat → κ) (s : Nat) : z7d f s ≤ s ∧ f (z7d f s) = f s ∧ ∀ t, t < z7d f s → f t ≠ f s := by
  unfold z7d
  cases h : (List.range s).find? fun t => decide (f t = f s) with
  | none =>
    rw [List.find?_eq_none] at h
    exact ⟨Nat.le_refl _, rfl, fun t ht => by simpa using h t (List.mem_range.2 ht)⟩
  | some u =>
    obtain ⟨h1, i, h2, h3, h4⟩ := List.find?_eq_some_iff_getElem.1 h
    rw [List.getElem_range] at h3
    subst h3
    rw [List.length_range] at h2
    refine ⟨by show i ≤ s; omega, by simpa using h1, fun t ht => ?_⟩
    have := h4 t ht
    rw [List.getElem_range] at this
    simpa using this
theorem z8b (f : Nat → κ) (s : Nat) : z2n f (z7d f s) = true := by
  obtain ⟨h1, h2, h3⟩ := z2s f s
  exact l6.2 fun t ht => by rw [h2]; exact h3 t ht
theorem zla {f : Nat → κ} {u s : Nat} (hu : z2n f u = true) (h : f u = f s) (hus : u ≤ s) : z7d f s = u := by
  obtain ⟨h1, h2, h3⟩ := z2s f s
  rcases Nat.lt_trichotomy (z7d f s) u with e | e | e
  · exact absurd (h2.trans h.symm) (l6.1 hu _ e)
  · exact e
  · exact absurd h (h3 u e)
theorem zco {f : Nat → κ} {u : Nat} (hu : z2n f u = true) : z7d f u = u := zla hu rfl (Nat.le_refl _)
theorem zki {f : Nat → κ} {s t : Nat} (h : f s = f t) : z7d f s = z7d f t := by
  obtain ⟨h1, h2, h3⟩ := z2s f s
  obtain ⟨k1, k2, k3⟩ := z2s f t
  rcases Nat.lt_trichotomy (z7d f s) (z7d f t) with e | e | e
  · exact absurd (h2.trans h) (k3 _ e)
  · exact e
  · exact absurd (k2.trans h.symm) (h3 _ e)
def name (f : Nat → κ) (s : Nat) : Nat := cntF f (z7d f s)
theorem zd7 {f : Nat → κ} {s t : Nat} : name f s = name f t ↔ f s = f t := by
  constructor
  · intro h
    have := zpr (z8b f s) (z8b f t) h
    rw [← (z2s f s).2.1, this, (z2s f t).2.1]
  · intro h; unfold name; rw [zki h]
theorem zdo {f : Nat → κ} {u : Nat} (h : z2n f u = true) : name f u = cntF f u := by unfold name; rw [zco h]
theorem zhd (f : Nat → κ) : name f 0 = 0 := by
  unfold name
  rw [zco (l6.2 fun t ht => by omega)]; rfl
/-! Only which keys are equal counts. -/
theorem zg0 {f : Nat → κ} {g : Nat → κ'} {n : Nat} (h : ∀ s t, s < n → t < n → (f s = f t ↔ g s = g t)) {u : Nat} (hu : u < n) : z2n f u = z2n g u := by
  rw [Bool.eq_iff_iff, l6, l6]
  exact ⟨fun k t ht e => k t ht ((h t u (by omega) hu).2 e), fun k t ht e => k t ht ((h t u (by omega) hu).1 e)⟩
theorem zf7 {f : Nat → κ} {g : Nat → κ'} {n : Nat} (h : ∀ s t, s < n → t < n → (f s = f t ↔ g s = g t)) : ∀ {u : Nat}, u ≤ n → cntF f u = cntF g u
  | 0, _ => rfl
  | u + 1, hu => by
    show cntF f u + _ = cntF g u + _
    rw [zf7 h (by omega), zg0 h (show u < n by omega)]
theorem zor {f : Nat → κ} {g : Nat → κ'} {n : Nat} (h : ∀ s t, s < n → t < n → (f s = f t ↔ g s = g t)) {s : Nat} (hs : s < n) : z7d f s = z7d g s := by
  obtain ⟨h1, h2, h3⟩ := z2s g s
  refine zla ?_ ((h _ _ (by omega) hs).2 h2) h1
  rw [zg0 h (by omega)]; exact z8b g s
theorem z9a {f : Nat → κ} {g : Nat → κ'} {n : Nat} (h : ∀ s t, s < n → t < n → (f s = f t ↔ g s = g t)) {s : Nat} (hs : s < n) : name f s = name g s := by
  have := (z2s g s).1
  unfold name
  rw [zor h hs, zf7 h (by omega)]
/-! A map from keys to names, as the first k things are named. -/
def nmM (f : Nat → κ) : Nat → List (κ × Int)
  | 0 => []
  | k + 1 => nmM f k ++ if z2n f k = true then [(f k, (cntF f k : Int))] else []
theorem zn9 (f : Nat → κ) : ∀ k, (nmM f k).length = cntF f k
  | 0 => rfl
  | k + 1 => by
    show (nmM f k ++ _).length = cntF f k + _
    rw [List.length_append, zn9 f k]
    split <;> rfl
theorem zkg {β : Type} {M M' : List (κ × β)} {x : κ} : z4e (M ++ M') x = (z4e M x || z4e M' x) := by
  induction M with
  | nil => rfl
  | cons p l ih =>
    show (if x = p.1 then true else z4e (l ++ M') x) = ((if x = p.1 then true else z4e l x) || z4e M' x)
    split
    · rfl
    · exact ih
theorem zkm {β : Type} {z : β} {M M' : List (κ × β)} {x : κ} : z7x z (M ++ M') x = if z4e M x = true then z7x z M x else z7x z M' x := by
  induction M with
  | nil => rfl
  | cons p l ih =>
    show (if x = p.1 then p.2 else z7x z (l ++ M') x) = if (if x = p.1 then true else z4e l x) = true then (if x = p.1 then p.2 else z7x z l x) else z7x z M' x
    by_cases h : x = p.1
    · simp [h]
    · simp only [if_neg h]; exact ih
theorem zrj {β : Type} {M : List (κ × β)} {x : κ} {v : β} (h : z4e M x = false) : zb6 M x v = M ++ [(x, v)] := by
  induction M with
  | nil => rfl
  | cons p l ih =>
    unfold z4e at h
    by_cases e : x = p.1
    · simp [e] at h
    · rw [if_neg e] at h
      simp only [zb6, if_neg e, ih h, List.cons_append]
theorem zd4 (f : Nat → κ) (x : κ) : ∀ k, z4e (nmM f k) x = true ↔ ∃ t, t < k ∧ f t = x
  | 0 => ⟨fun h => by simp [nmM, z4e] at h, fun ⟨t, ht, _⟩ => by omega⟩
  | k + 1 => by
    show z4e (nmM f k ++ _) x = true ↔ _
    rw [zkg, Bool.or_eq_true, zd4 f x k]
    constructor
    · rintro (⟨t, ht, h⟩ | h)
      · exact ⟨t, by omega, h⟩
      · split at h
        · by_cases e : x = f k
          · exact ⟨k, by omega, e.symm⟩
          · simp [z4e, e] at h
        · simp [z4e] at h
    · rintro ⟨t, ht, h⟩
      by_cases e : ∃ u, u < k ∧ f u = x
      · exact .inl e
      · have htk : t = k := by
          rcases Nat.lt_or_ge t k with h1 | h1
          · exact absurd ⟨t, h1, h⟩ e
          · omega
        subst htk
        right
        rw [if_pos (l6.2 fun u hu hne => e ⟨u, hu, hne.trans h⟩)]
        simp [z4e, h]
theorem znn (f : Nat → κ) {s : Nat} : ∀ k, s < k → z7x 0 (nmM f k) (f s) = (name f s : Int)
  | 0, h => by omega
  | k + 1, h => by
    show z7x 0 (nmM f k ++ _) (f s) = _
    rw [zkm]
    by_cases e : z4e (nmM f k) (f s) = true
    · rw [if_pos e]
      obtain ⟨t, ht, hts⟩ := (zd4 f _ k).1 e
      rw [← hts, znn f k ht, zd7.2 hts]
    · rw [if_neg e]
      have hf : ∀ u, u < k → f u ≠ f s := fun u hu hne => e ((zd4 f _ k).2 ⟨u, hu, hne⟩)
      have hk : s = k := by
        rcases Nat.lt_or_ge s k with h1 | h1
        · exact absurd rfl (hf s h1)
        · omega
      subst hk
      have hfr := l6.2 hf
      rw [if_pos hfr, zdo hfr]
      simp [z7x]
theorem zs6 (f : Nat → κ) {k : Nat} (h : z4e (nmM f k) (f k) = false) : zb6 (nmM f k) (f k) ((nmM f k).length : Int) = nmM f (k + 1) := by
  have hfr : z2n f k = true := l6.2 fun t ht hne => by
    have := (zd4 f (f k) k).2 ⟨t, ht, hne⟩
    rw [h] at this; cases this
  rw [zrj h, zn9]
  show _ = nmM f k ++ _
  rw [if_pos hfr]
theorem zt9 (f : Nat → κ) {k : Nat} (h : z4e (nmM f k) (f k) = true) : nmM f (k + 1) = nmM f k := by
  obtain ⟨t, ht, hts⟩ := (zd4 f _ k).1 h
  show nmM f k ++ _ = _
  rw [if_neg (fun hf => l6.1 hf t ht hts), List.append_nil]
def zoo (f : Nat → κ) (n : Nat) : List Int := (List.range n).map fun s => (name f s : Int)
theorem zlt {f : Nat → κ} {g : Nat → κ'} {n : Nat} (h : ∀ s t, s < n → t < n → (f s = f t ↔ g s = g t)) : zoo f n = zoo g n := by
  unfold zoo
  refine List.map_congr_left fun s hs => ?_
  rw [z9a h (List.mem_range.1 hs)]
end names
def zvs {κ : Type} [DecidableEq κ] (f : Nat → κ) (n : Nat) : List Nat := (List.range n).filter fun u => z2n f u
section zvs
variable {κ : Type} [DecidableEq κ] {f : Nat → κ}
end zvs
end GV
end Go.Proofs.Ytplgbkaollfmkaa
