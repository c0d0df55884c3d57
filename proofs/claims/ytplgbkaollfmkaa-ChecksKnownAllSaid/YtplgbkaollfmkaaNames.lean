import Derived.Test.YtplgbkaollfmkaaShMap
set_option linter.unusedVariables false
set_option linter.unusedSimpArgs false
namespace Go.Proofs.Ytplgbkaollfmkaa
namespace GV
section names
variable {κ κ' : Type} [DecidableEq κ] [DecidableEq κ']
def z1v (f : Nat → κ) (u : Nat) : Bool := (List.range u).all fun t => decide (f t ≠ f u)
theorem rz {f : Nat → κ} {u : Nat} : z1v f u = true ↔ ∀ t, t < u → f t ≠ f u := by
  unfold z1v
  rw [List.all_eq_true]
  exact ⟨fun h t ht => of_decide_eq_true (h t (List.mem_range.2 ht)), fun h t ht => decide_eq_true (h t (List.mem_range.1 ht))⟩
def cntF (f : Nat → κ) : Nat → Nat
  | 0 => 0
  | u + 1 => cntF f u + if z1v f u = true then 1 else 0
theorem zjr (f : Nat → κ) : ∀ u, cntF f u ≤ u
  | 0 => Nat.le_refl _
  | u + 1 => by have := zjr f u; unfold cntF; split <;> omega
theorem cntF_step (f : Nat → κ) (u : Nat) : cntF f u ≤ cntF f (u + 1) := by show _ ≤ cntF f u + _; omega
theorem zlj (f : Nat → κ) {u v : Nat} (h : u ≤ v) : cntF f u ≤ cntF f v := by
  induction v with
  | zero => rw [show u = 0 by omega]; exact Nat.le_refl _
  | succ v ih =>
    by_cases e : u = v + 1
    · rw [e]; exact Nat.le_refl _
    · exact Nat.le_trans (ih (by omega)) (cntF_step f v)
theorem zbt (f : Nat → κ) {u v : Nat} (h : u < v) (hf : z1v f u = true) : cntF f u < cntF f v := by
  have h1 := zlj f (show u + 1 ≤ v by omega)
  have h2 : cntF f (u + 1) = cntF f u + 1 := by show cntF f u + _ = _; rw [if_pos hf]
  omega
theorem zn9 {f : Nat → κ} {u v : Nat} (hu : z1v f u = true) (hv : z1v f v = true) (h : cntF f u = cntF f v) : u = v := by
  rcases Nat.lt_trichotomy u v with e | e | e
  · have := zbt f e hu; omega
  · exact e
  · have := zbt f e hv; omega
def z3t (f : Nat → κ) (s : Nat) : Nat := ((List.range s).find? fun t => decide (f t = f s)).getD s
theorem z0b (f : Nat → κ) (s : Nat) : z3t f s ≤ s ∧ f (z3t f s) = f s ∧ ∀ t, t < z3t f s → f t ≠ f s := by
  unfold z3t
  cases h : (List.range s).find? fun t => decide (f t = f s) with
  | none =>
    rw [List.find?_eq_none] at h
    exact ⟨Nat.le_refl _, rfl, fun t ht => by simpa using h t (List.mem_range.2 ht)⟩
  | some u =>
    obtain ⟨h1, i, h2, h3, h4⟩ := List.find?_eq_some_iff_getElem.1 h
    rw [List.getElem_range] at h3
    subst h3
    rw [List.length_range] at h2
    refine ⟨by show i ≤ s; omega, by simpa using h1, fun t ht => ?_⟩
    have := h4 t ht
    rw [List.getElem_range] at this
    simpa using this
theorem z5a (f : Nat → κ) (s : Nat) : z1v f (z3t f s) = true := by
  obtain ⟨h1, h2, h3⟩ := z0b f s
  exact rz.2 fun t ht => by rw [h2]; exact h3 t ht
theorem zgx {f : Nat → κ} {u s : Nat} (hu : z1v f u = true) (h : f u = f s) (hus : u ≤ s) : z3t f s = u := by
  obtain ⟨h1, h2, h3⟩ := z0b f s
  rcases Nat.lt_trichotomy (z3t f s) u with e | e | e
  · exact absurd (h2.trans h.symm) (rz.1 hu _ e)
  · exact e
  · exact absurd h (h3 u e)
theorem za5 {f : Nat → κ} {u : Nat} (hu : z1v f u = true) : z3t f u = u := zgx hu rfl (Nat.le_refl _)
theorem zhl {f : Nat → κ} {s t : Nat} (h : f s = f t) : z3t f s = z3t f t := by
  obtain ⟨h1, h2, h3⟩ := z0b f s
  obtain ⟨k1, k2, k3⟩ := z0b f t
  rcases Nat.lt_trichotomy (z3t f s) (z3t f t) with e | e | e
  · exact absurd (h2.trans h) (k3 _ e)
  · exact e
  · exact absurd (k2.trans h.symm) (h3 _ e)
def name (f : Nat → κ) (s : Nat) : Nat := cntF f (z3t f s)
theorem z9o {f : Nat → κ} {s t : Nat} : name f s = name f t ↔ f s = f t := by
  constructor
  · intro h
    have := zn9 (z5a f s) (z5a f t) h
    rw [← (z0b f s).2.1, this, (z0b f t).2.1]
  · intro h; unfold name; rw [zhl h]
theorem zdy {f : Nat → κ} {u : Nat} (h : z1v f u = true) : name f u = cntF f u := by unfold name; rw [za5 h]
theorem zex (f : Nat → κ) : name f 0 = 0 := by
  unfold name
  rw [za5 (rz.2 fun t ht => by omega)]; rfl
/-! Only which keys are equal counts. -/
theorem zck {f : Nat → κ} {g : Nat → κ'} {n : Nat} (h : ∀ s t, s < n → t < n → (f s = f t ↔ g s = g t)) {u : Nat} (hu : u < n) : z1v f u = z1v g u := by
  rw [Bool.eq_iff_iff, rz, rz]
  exact ⟨fun k t ht e => k t ht ((h t u (by omega) hu).2 e), fun k t ht e => k t ht ((h t u (by omega) hu).1 e)⟩
theorem zci {f : Nat → κ} {g : Nat → κ'} {n : Nat} (h : ∀ s t, s < n → t < n → (f s = f t ↔ g s = g t)) : ∀ {u : Nat}, u ≤ n → cntF f u = cntF g u
  | 0, _ => rfl
  | u + 1, hu => by
    show cntF f u + _ = cntF g u + _
    rw [zci h (by omega), zck h (show u < n by omega)]
theorem zk1 {f : Nat → κ} {g : Nat → κ'} {n : Nat} (h : ∀ s t, s < n → t < n → (f s = f t ↔ g s = g t)) {s : Nat} (hs : s < n) : z3t f s = z3t g s := by
  obtain ⟨h1, h2, h3⟩ := z0b g s
  refine zgx ?_ ((h _ _ (by omega) hs).2 h2) h1
  rw [zck h (by omega)]; exact z5a g s
theorem z5d {f : Nat → κ} {g : Nat → κ'} {n : Nat} (h : ∀ s t, s < n → t < n → (f s = f t ↔ g s = g t)) {s : Nat} (hs : s < n) : name f s = name g s := by
  have := (z0b g s).1
  unfold name
  rw [zk1 h hs, zci h (by omega)]
/-! A map from keys to names, as the first k things are named. -/
def nmM (f : Nat → κ) : Nat → List (κ × Int)
  | 0 => []
  | k + 1 => nmM f k ++ if z1v f k = true then [(f k, (cntF f k : Int))] else []
theorem zjb (f : Nat → κ) : ∀ k, (nmM f k).length = cntF f k
  | 0 => rfl
  | k + 1 => by
    show (nmM f k ++ _).length = cntF f k + _
    rw [List.length_append, zjb f k]
    split <;> rfl
theorem zgr {β : Type} {M M' : List (κ × β)} {x : κ} : z1b (M ++ M') x = (z1b M x || z1b M' x) := by
  induction M with
  | nil => rfl
  | cons p l ih =>
    show (if x = p.1 then true else z1b (l ++ M') x) = ((if x = p.1 then true else z1b l x) || z1b M' x)
    split
    · rfl
    · exact ih
theorem zgh {β : Type} {z : β} {M M' : List (κ × β)} {x : κ} : z0w z (M ++ M') x = if z1b M x = true then z0w z M x else z0w z M' x := by
  induction M with
  | nil => rfl
  | cons p l ih =>
    show (if x = p.1 then p.2 else z0w z (l ++ M') x) = if (if x = p.1 then true else z1b l x) = true then (if x = p.1 then p.2 else z0w z l x) else z0w z M' x
    by_cases h : x = p.1
    · simp [h]
    · simp only [if_neg h]; exact ih
theorem zme {β : Type} {M : List (κ × β)} {x : κ} {v : β} (h : z1b M x = false) : z2u M x v = M ++ [(x, v)] := by
  induction M with
  | nil => rfl
  | cons p l ih =>
    unfold z1b at h
    by_cases e : x = p.1
    · simp [e] at h
    · rw [if_neg e] at h
      simp only [z2u, if_neg e, ih h, List.cons_append]
theorem z9f (f : Nat → κ) (x : κ) : ∀ k, z1b (nmM f k) x = true ↔ ∃ t, t < k ∧ f t = x
  | 0 => ⟨fun h => by simp [nmM, z1b] at h, fun ⟨t, ht, _⟩ => by omega⟩
  | k + 1 => by
    show z1b (nmM f k ++ _) x = true ↔ _
    rw [zgr, Bool.or_eq_true, z9f f x k]
    constructor
    · rintro (⟨t, ht, h⟩ | h)
      · exact ⟨t, by omega, h⟩
      · split at h
        · by_cases e : x = f k
          · exact ⟨k, by omega, e.symm⟩
          · simp [z1b, e] at h
        · simp [z1b] at h
    · rintro ⟨t, ht, h⟩
      by_cases e : ∃ u, u < k ∧ f u = x
      · exact .inl e
      · have htk : t = k := by
          rcases Nat.lt_or_ge t k with h1 | h1
          · exact absurd ⟨t, h1, h⟩ e
          · omega
        subst htk
        right
        rw [if_pos (rz.2 fun u hu hne => e ⟨u, hu, hne.trans h⟩)]
        simp [z1b, h]
theorem zjq (f : Nat → κ) {s : Nat} : ∀ k, s < k → z0w 0 (nmM f k) (f s) = (name f s : Int)
  | 0, h => by omega
  | k + 1, h => by
    show z0w 0 (nmM f k ++ _) (f s) = _
    rw [zgh]
    by_cases e : z1b (nmM f k) (f s) = true
    · rw [if_pos e]
      obtain ⟨t, ht, hts⟩ := (z9f f _ k).1 e
      rw [← hts, zjq f k ht, z9o.2 hts]
    · rw [if_neg e]
      have hf : ∀ u, u < k → f u ≠ f s := fun u hu hne => e ((z9f f _ k).2 ⟨u, hu, hne⟩)
      have hk : s = k := by
        rcases Nat.lt_or_ge s k with h1 | h1
        · exact absurd rfl (hf s h1)
        · omega
      subst hk
      have hfr := rz.2 hf
      rw [if_pos hfr, zdy hfr]
      simp [z0w]
theorem zq8 (f : Nat → κ) {k : Nat} (h : z1b (nmM f k) (f k) = false) : z2u (nmM f k) (f k) ((nmM f k).length : Int) = nmM f (k + 1) := by
  have hfr : z1v f k = true := rz.2 fun t ht hne => by
    have := (z9f f (f k) k).2 ⟨t, ht, hne⟩
    rw [h] at this; cases this
  rw [zme h, zjb]
  show _ = nmM f k ++ _
  rw [if_pos hfr]
theorem zq0 (f : Nat → κ) {k : Nat} (h : z1b (nmM f k) (f k) = true) : nmM f (k + 1) = nmM f k := by
  obtain ⟨t, ht, hts⟩ := (z9f f _ k).1 h
  show nmM f k ++ _ = _
  rw [if_neg (fun hf => rz.1 hf t ht hts), List.append_nil]
def zk8 (f : Nat → κ) (n : Nat) : List Int := (List.range n).map fun s => (name f s : Int)
theorem zix {f : Nat → κ} {g : Nat → κ'} {n : Nat} (h : ∀ s t, s < n → t < n → (f s = f t ↔ g s = g t)) : zk8 f n = zk8 g n := by
  unfold zk8
  refine List.map_congr_left fun s hs => ?_
  rw [z5d h (List.mem_range.1 hs)]
end names
def zsg {κ : Type} [DecidableEq κ] (f : Nat → κ) (n : Nat) : List Nat := (List.range n).filter fun u => z1v f u
section zsg
variable {κ : Type} [DecidableEq κ] {f : Nat → κ}
end zsg
end GV
end Go.Proofs.Ytplgbkaollfmkaa
