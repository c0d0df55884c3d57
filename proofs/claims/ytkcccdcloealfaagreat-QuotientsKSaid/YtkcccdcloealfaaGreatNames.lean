import Derived.Test.YtkcccdcloealfaaGreatShMap
set_option linter.unusedVariables false
set_option linter.unusedSimpArgs false
namespace Go.Proofs.YtkcccdcloealfaaGreat
namespace GV
section names
variable {κ κ' : Type} [DecidableEq κ] [DecidableEq κ']
def z1a (f : Nat → κ) (u : Nat) : Bool := (List.range u).all fun t => decide (f t ≠ f u)
theorem av {f : Nat → κ} {u : Nat} : z1a f u = true ↔ ∀ t, t < u → f t ≠ f u := by
  unfold z1a
  rw [List.all_eq_true]
  exact ⟨fun h t ht => of_decide_eq_true (h t (List.mem_range.2 ht)), fun h t ht => decide_eq_true (h t (List.mem_range.1 ht))⟩
def cntF (f : Nat → κ) : Nat → Nat
  | 0 => 0
  | u + 1 => cntF f u + if z1a f u = true then 1 else 0
theorem z88 (f : Nat → κ) : ∀ u, cntF f u ≤ u
  | 0 => Nat.le_refl _
  | u + 1 => by have := z88 f u; unfold cntF; split <;> omega
theorem cntF_step (f : Nat → κ) (u : Nat) : cntF f u ≤ cntF f (u + 1) := by show _ ≤ cntF f u + _; omega
theorem zln (f : Nat → κ) {u v : Nat} (h : u ≤ v) : cntF f u ≤ cntF f v := by
  induction v with
  | zero => rw [show u = 0 by omega]; exact Nat.le_refl _
  | succ v ih =>
    by_cases e : u = v + 1
    · rw [e]; exact Nat.le_refl _
    · exact Nat.le_trans (ih (by omega)) (cntF_step f v)
theorem z94 (f : Nat → κ) {u v : Nat} (h : u < v) (hf : z1a f u = true) : cntF f u < cntF f v := by
  have h1 := zln f (show u + 1 ≤ v by omega)
  have h2 : cntF f (u + 1) = cntF f u + 1 := by show cntF f u + _ = _; rw [if_pos hf]
  omega
theorem zyl {f : Nat → κ} {u v : Nat} (hu : z1a f u = true) (hv : z1a f v = true) (h : cntF f u = cntF f v) : u = v := by
  rcases Nat.lt_trichotomy u v with e | e | e
  · have := z94 f e hu; omega
  · exact e
  · have := z94 f e hv; omega
theorem zlo (f : Nat → κ) : ∀ {n c : Nat}, c < cntF f n → ∃ u, u < n ∧ z1a f u = true ∧ cntF f u = c
  | 0, c, h => by simp [cntF] at h
  | n + 1, c, h => by
    by_cases h1 : c < cntF f n
    · obtain ⟨u, hu, h2⟩ := zlo f h1
      exact ⟨u, by omega, h2⟩
    · have h2 : c < cntF f n + if z1a f n = true then 1 else 0 := h
      by_cases h3 : z1a f n = true
      · rw [if_pos h3] at h2
        exact ⟨n, by omega, h3, by omega⟩
      · rw [if_neg h3] at h2; omega
def z6h (f : Nat → κ) (s : Nat) : Nat := ((List.range s).find? fun t => decide (f t = f s)).getD s
theorem z3b (f : Nat → κ) (s : Nat) : z6h f s ≤ s ∧ f (z6h f s) = f s ∧ ∀ t, t < z6h f s → f t ≠ f s := by
  unfold z6h
  cases h : (List.range s).find? fun t => decide (f t = f s) with
  | none =>
    rw [List.find?_eq_none] at h
    exact ⟨Nat.le_refl _, rfl, fun t ht => by simpa using h t (List.mem_range.2 ht)⟩
  | some u =>
    obtain ⟨h1, i, h2, h3, h4⟩ := List.find?_eq_some_iff_getElem.1 h
    rw [List.getElem_range] at h3
    subst h3
    rw [List.length_range] at h2
    refine ⟨by show i ≤ s; omega, by simpa using h1, fun t ht => ?_⟩
    have := h4 t ht
    rw [List.getElem_range] at this
    simpa using this
theorem z6n (f : Nat → κ) (s : Nat) : z1a f (z6h f s) = true := by
  obtain ⟨h1, h2, h3⟩ := z3b f s
  exact av.2 fun t ht => by rw [h2]; exact h3 t ht
theorem zo2 {f : Nat → κ} {u s : Nat} (hu : z1a f u = true) (h : f u = f s) (hus : u ≤ s) : z6h f s = u := by
  obtain ⟨h1, h2, h3⟩ := z3b f s
  rcases Nat.lt_trichotomy (z6h f s) u with e | e | e
  · exact absurd (h2.trans h.symm) (av.1 hu _ e)
  · exact e
  · exact absurd h (h3 u e)
theorem zbm {f : Nat → κ} {u : Nat} (hu : z1a f u = true) : z6h f u = u := zo2 hu rfl (Nat.le_refl _)
theorem ziw {f : Nat → κ} {s t : Nat} (h : f s = f t) : z6h f s = z6h f t := by
  obtain ⟨h1, h2, h3⟩ := z3b f s
  obtain ⟨k1, k2, k3⟩ := z3b f t
  rcases Nat.lt_trichotomy (z6h f s) (z6h f t) with e | e | e
  · exact absurd (h2.trans h) (k3 _ e)
  · exact e
  · exact absurd (k2.trans h.symm) (h3 _ e)
def name (f : Nat → κ) (s : Nat) : Nat := cntF f (z6h f s)
theorem zg8 {f : Nat → κ} {s t : Nat} : name f s = name f t ↔ f s = f t := by
  constructor
  · intro h
    have := zyl (z6n f s) (z6n f t) h
    rw [← (z3b f s).2.1, this, (z3b f t).2.1]
  · intro h; unfold name; rw [ziw h]
theorem zyu {f : Nat → κ} {s n : Nat} (h : s < n) : name f s < cntF f n := z94 f (Nat.lt_of_le_of_lt (z3b f s).1 h) (z6n f s)
theorem z97 {f : Nat → κ} {u : Nat} (h : z1a f u = true) : name f u = cntF f u := by unfold name; rw [zbm h]
theorem zm4 (f : Nat → κ) : name f 0 = 0 := by
  unfold name
  rw [zbm (av.2 fun t ht => by omega)]; rfl
/-! Only which keys are equal counts. -/
theorem zf5 {f : Nat → κ} {g : Nat → κ'} {n : Nat} (h : ∀ s t, s < n → t < n → (f s = f t ↔ g s = g t)) {u : Nat} (hu : u < n) : z1a f u = z1a g u := by
  rw [Bool.eq_iff_iff, av, av]
  exact ⟨fun k t ht e => k t ht ((h t u (by omega) hu).2 e), fun k t ht e => k t ht ((h t u (by omega) hu).1 e)⟩
theorem zf7 {f : Nat → κ} {g : Nat → κ'} {n : Nat} (h : ∀ s t, s < n → t < n → (f s = f t ↔ g s = g t)) : ∀ {u : Nat}, u ≤ n → cntF f u = cntF g u
  | 0, _ => rfl
  | u + 1, hu => by
    show cntF f u + _ = cntF g u + _
    rw [zf7 h (by omega), zf5 h (show u < n by omega)]
theorem zuk {f : Nat → κ} {g : Nat → κ'} {n : Nat} (h : ∀ s t, s < n → t < n → (f s = f t ↔ g s = g t)) {s : Nat} (hs : s < n) : z6h f s = z6h g s := by
  obtain ⟨h1, h2, h3⟩ := z3b g s
  refine zo2 ?_ ((h _ _ (by omega) hs).2 h2) h1
  rw [zf5 h (by omega)]; exact z6n g s
theorem z9j {f : Nat → κ} {g : Nat → κ'} {n : Nat} (h : ∀ s t, s < n → t < n → (f s = f t ↔ g s = g t)) {s : Nat} (hs : s < n) : name f s = name g s := by
  have := (z3b g s).1
  unfold name
  rw [zuk h hs, zf7 h (by omega)]
/-! A map from keys to names, as the first k things are named. -/
def nmM (f : Nat → κ) : Nat → List (κ × Int)
  | 0 => []
  | k + 1 => nmM f k ++ if z1a f k = true then [(f k, (cntF f k : Int))] else []
theorem zng (f : Nat → κ) : ∀ k, (nmM f k).length = cntF f k
  | 0 => rfl
  | k + 1 => by
    show (nmM f k ++ _).length = cntF f k + _
    rw [List.length_append, zng f k]
    split <;> rfl
theorem zpc {β : Type} {M M' : List (κ × β)} {x : κ} : z4z (M ++ M') x = (z4z M x || z4z M' x) := by
  induction M with
  | nil => rfl
  | cons p l ih =>
    show (if x = p.1 then true else z4z (l ++ M') x) = ((if x = p.1 then true else z4z l x) || z4z M' x)
    split
    · rfl
    · exact ih
theorem zpu {β : Type} {z : β} {M M' : List (κ × β)} {x : κ} : z3j z (M ++ M') x = if z4z M x = true then z3j z M x else z3j z M' x := by
  induction M with
  | nil => rfl
  | cons p l ih =>
    show (if x = p.1 then p.2 else z3j z (l ++ M') x) = if (if x = p.1 then true else z4z l x) = true then (if x = p.1 then p.2 else z3j z l x) else z3j z M' x
    by_cases h : x = p.1
    · simp [h]
    · simp only [if_neg h]; exact ih
theorem zvx {β : Type} {M : List (κ × β)} {x : κ} {v : β} (h : z4z M x = false) : z7v M x v = M ++ [(x, v)] := by
  induction M with
  | nil => rfl
  | cons p l ih =>
    unfold z4z at h
    by_cases e : x = p.1
    · simp [e] at h
    · rw [if_neg e] at h
      simp only [z7v, if_neg e, ih h, List.cons_append]
theorem zc2 (f : Nat → κ) (x : κ) : ∀ k, z4z (nmM f k) x = true ↔ ∃ t, t < k ∧ f t = x
  | 0 => ⟨fun h => by simp [nmM, z4z] at h, fun ⟨t, ht, _⟩ => by omega⟩
  | k + 1 => by
    show z4z (nmM f k ++ _) x = true ↔ _
    rw [zpc, Bool.or_eq_true, zc2 f x k]
    constructor
    · rintro (⟨t, ht, h⟩ | h)
      · exact ⟨t, by omega, h⟩
      · split at h
        · by_cases e : x = f k
          · exact ⟨k, by omega, e.symm⟩
          · simp [z4z, e] at h
        · simp [z4z] at h
    · rintro ⟨t, ht, h⟩
      by_cases e : ∃ u, u < k ∧ f u = x
      · exact .inl e
      · have htk : t = k := by
          rcases Nat.lt_or_ge t k with h1 | h1
          · exact absurd ⟨t, h1, h⟩ e
          · omega
        subst htk
        right
        rw [if_pos (av.2 fun u hu hne => e ⟨u, hu, hne.trans h⟩)]
        simp [z4z, h]
theorem zn1 (f : Nat → κ) {s : Nat} : ∀ k, s < k → z3j 0 (nmM f k) (f s) = (name f s : Int)
  | 0, h => by omega
  | k + 1, h => by
    show z3j 0 (nmM f k ++ _) (f s) = _
    rw [zpu]
    by_cases e : z4z (nmM f k) (f s) = true
    · rw [if_pos e]
      obtain ⟨t, ht, hts⟩ := (zc2 f _ k).1 e
      rw [← hts, zn1 f k ht, zg8.2 hts]
    · rw [if_neg e]
      have hf : ∀ u, u < k → f u ≠ f s := fun u hu hne => e ((zc2 f _ k).2 ⟨u, hu, hne⟩)
      have hk : s = k := by
        rcases Nat.lt_or_ge s k with h1 | h1
        · exact absurd rfl (hf s h1)
        · omega
      subst hk
      have hfr := av.2 hf
      rw [if_pos hfr, z97 hfr]
      simp [z3j]
theorem zrw (f : Nat → κ) {k : Nat} (h : z4z (nmM f k) (f k) = false) : z7v (nmM f k) (f k) ((nmM f k).length : Int) = nmM f (k + 1) := by
  have hfr : z1a f k = true := av.2 fun t ht hne => by
    have := (zc2 f (f k) k).2 ⟨t, ht, hne⟩
    rw [h] at this; cases this
  rw [zvx h, zng]
  show _ = nmM f k ++ _
  rw [if_pos hfr]
theorem zrx (f : Nat → κ) {k : Nat} (h : z4z (nmM f k) (f k) = true) : nmM f (k + 1) = nmM f k := by
  obtain ⟨t, ht, hts⟩ := (zc2 f _ k).1 h
  show nmM f k ++ _ = _
  rw [if_neg (fun hf => av.1 hf t ht hts), List.append_nil]
def ztr (f : Nat → κ) (n : Nat) : List Int := (List.range n).map fun s => (name f s : Int)
theorem zqs {f : Nat → κ} {g : Nat → κ'} {n : Nat} (h : ∀ s t, s < n → t < n → (f s = f t ↔ g s = g t)) : ztr f n = ztr g n := by
  unfold ztr
  refine List.map_congr_left fun s hs => ?_
  rw [z9j h (List.mem_range.1 hs)]
end names
def z1r {κ : Type} [DecidableEq κ] (f : Nat → κ) (n : Nat) : List Nat := (List.range n).filter fun u => z1a f u
section z1r
variable {κ : Type} [DecidableEq κ] {f : Nat → κ}
theorem zb8 (n : Nat) : z1r f (n + 1) = z1r f n ++ if z1a f n = true then [n] else [] := by
  unfold z1r
  rw [List.range_succ, List.filter_append]
  congr 1
  by_cases h : z1a f n = true
  · rw [if_pos h, List.filter_cons_of_pos h]; rfl
  · rw [if_neg h, List.filter_cons_of_neg h]; rfl
theorem z3a : ∀ n, (z1r f n).length = cntF f n
  | 0 => rfl
  | n + 1 => by
    rw [zb8, List.length_append, z3a n]
    show _ = cntF f n + _
    split <;> rfl
theorem zj2 : ∀ {n u : Nat}, u < n → z1a f u = true → (z1r f n).getD (cntF f u) 0 = u
  | 0, u, h, _ => by omega
  | n + 1, u, h, hf => by
    rw [zb8]
    by_cases e : u = n
    · subst e
      rw [if_pos hf, List.getD_eq_getElem?_getD, ← z3a u, List.getElem?_concat_length]; rfl
    · have h1 := z94 f (show u < n by omega) hf
      rw [List.getD_eq_getElem?_getD, List.getElem?_append_left (by rw [z3a]; exact h1), ← List.getD_eq_getElem?_getD]
      exact zj2 (by omega) hf
theorem z4u {n c : Nat} (h : c < cntF f n) : (z1r f n).getD c 0 < n ∧ z1a f ((z1r f n).getD c 0) = true ∧ cntF f ((z1r f n).getD c 0) = c := by
  obtain ⟨u, hu, hf, rfl⟩ := zlo f h
  rw [zj2 hu hf]
  exact ⟨hu, hf, rfl⟩
end z1r
end GV
end Go.Proofs.YtkcccdcloealfaaGreat
