import Derived.Test.YtkcccdcloealfaaShMap
set_option linter.unusedVariables false
set_option linter.unusedSimpArgs false
namespace Go.Proofs.Ytkcccdcloealfaa
namespace GV
section names
variable {κ κ' : Type} [DecidableEq κ] [DecidableEq κ']
def iy (f : Nat → κ) (u : Nat) : Bool := (List.range u).all fun t => decide (f t ≠ f u)
theorem pu {f : Nat → κ} {u : Nat} : iy f u = true ↔ ∀ t, t < u → f t ≠ f u := by
  unfold iy
  rw [List.all_eq_true]
  exact ⟨fun h t ht => of_decide_eq_true (h t (List.mem_range.2 ht)), fun h t ht => decide_eq_true (h t (List.mem_range.1 ht))⟩
def cntF (f : Nat → κ) : Nat → Nat
  | 0 => 0
  | u + 1 => cntF f u + if iy f u = true then 1 else 0
theorem z6u (f : Nat → κ) : ∀ u, cntF f u ≤ u
  | 0 => Nat.le_refl _
  | u + 1 => by have := z6u f u; unfold cntF; split <;> omega
theorem cntF_step (f : Nat → κ) (u : Nat) : cntF f u ≤ cntF f (u + 1) := by show _ ≤ cntF f u + _; omega
theorem zgg (f : Nat → κ) {u v : Nat} (h : u ≤ v) : cntF f u ≤ cntF f v := by
  induction v with
  | zero => rw [show u = 0 by omega]; exact Nat.le_refl _
  | succ v ih =>
    by_cases e : u = v + 1
    · rw [e]; exact Nat.le_refl _
    · exact Nat.le_trans (ih (by omega)) (cntF_step f v)
theorem z3t (f : Nat → κ) {u v : Nat} (h : u < v) (hf : iy f u = true) : cntF f u < cntF f v := by
  have h1 := zgg f (show u + 1 ≤ v by omega)
  have h2 : cntF f (u + 1) = cntF f u + 1 := by show cntF f u + _ = _; rw [if_pos hf]
  omega
theorem zr8 {f : Nat → κ} {u v : Nat} (hu : iy f u = true) (hv : iy f v = true) (h : cntF f u = cntF f v) : u = v := by
  rcases Nat.lt_trichotomy u v with e | e | e
  · have := z3t f e hu; omega
  · exact e
  · have := z3t f e hv; omega
theorem zfx (f : Nat → κ) : ∀ {n c : Nat}, c < cntF f n → ∃ u, u < n ∧ iy f u = true ∧ cntF f u = c
  | 0, c, h => by simp [cntF] at h
  | n + 1, c, h => by
    by_cases h1 : c < cntF f n
    · obtain ⟨u, hu, h2⟩ := zfx f h1
      exact ⟨u, by omega, h2⟩
    · have h2 : c < cntF f n + if iy f n = true then 1 else 0 := h
      by_cases h3 : iy f n = true
      · rw [if_pos h3] at h2
        exact ⟨n, by omega, h3, by omega⟩
      · rw [if_neg h3] at h2; omega
def z1t (f : Nat → κ) (s : Nat) : Nat := ((List.range s).find? fun t => decide (f t = f s)).getD s
theorem rf (f : Nat → κ) (s : Nat) : z1t f s ≤ s ∧ f (z1t f s) = f s ∧ ∀ t, t < z1t f s → f t ≠ f s := by
  unfold z1t
  cases h : (List.range s).find? fun t => decide (f t = f s) with
  | none =>
    rw [List.find?_eq_none] at h
    exact ⟨Nat.le_refl _, rfl, fun t ht => by simpa using h t (List.mem_range.2 ht)⟩
  | some u =>
    obtain ⟨h1, i, h2, h3, h4⟩ := List.find?_eq_some_iff_getElem.1 h
    rw [List.getElem_range] at h3
    subst h3
    rw [List.length_range] at h2
    refine ⟨by show i ≤ s; omega, by simpa using h1, fun t ht => ?_⟩
    have := h4 t ht
    rw [List.getElem_range] at this
    simpa using this
theorem z2e (f : Nat → κ) (s : Nat) : iy f (z1t f s) = true := by
  obtain ⟨h1, h2, h3⟩ := rf f s
  exact pu.2 fun t ht => by rw [h2]; exact h3 t ht
theorem zk1 {f : Nat → κ} {u s : Nat} (hu : iy f u = true) (h : f u = f s) (hus : u ≤ s) : z1t f s = u := by
  obtain ⟨h1, h2, h3⟩ := rf f s
  rcases Nat.lt_trichotomy (z1t f s) u with e | e | e
  · exact absurd (h2.trans h.symm) (pu.1 hu _ e)
  · exact e
  · exact absurd h (h3 u e)
theorem z5y {f : Nat → κ} {u : Nat} (hu : iy f u = true) : z1t f u = u := zk1 hu rfl (Nat.le_refl _)
theorem zeo {f : Nat → κ} {s t : Nat} (h : f s = f t) : z1t f s = z1t f t := by
  obtain ⟨h1, h2, h3⟩ := rf f s
  obtain ⟨k1, k2, k3⟩ := rf f t
  rcases Nat.lt_trichotomy (z1t f s) (z1t f t) with e | e | e
  · exact absurd (h2.trans h) (k3 _ e)
  · exact e
  · exact absurd (k2.trans h.symm) (h3 _ e)
def name (f : Nat → κ) (s : Nat) : Nat := cntF f (z1t f s)
theorem zay {f : Nat → κ} {s t : Nat} : name f s = name f t ↔ f s = f t := by
  constructor
  · intro h
    have := zr8 (z2e f s) (z2e f t) h
    rw [← (rf f s).2.1, this, (rf f t).2.1]
  · intro h; unfold name; rw [zeo h]
theorem zrl {f : Nat → κ} {s n : Nat} (h : s < n) : name f s < cntF f n := z3t f (Nat.lt_of_le_of_lt (rf f s).1 h) (z2e f s)
theorem z6f {f : Nat → κ} {u : Nat} (h : iy f u = true) : name f u = cntF f u := by unfold name; rw [z5y h]
theorem zfp (f : Nat → κ) : name f 0 = 0 := by
  unfold name
  rw [z5y (pu.2 fun t ht => by omega)]; rfl
/-! Only which keys are equal counts. -/
theorem zan {f : Nat → κ} {g : Nat → κ'} {n : Nat} (h : ∀ s t, s < n → t < n → (f s = f t ↔ g s = g t)) {u : Nat} (hu : u < n) : iy f u = iy g u := by
  rw [Bool.eq_iff_iff, pu, pu]
  exact ⟨fun k t ht e => k t ht ((h t u (by omega) hu).2 e), fun k t ht e => k t ht ((h t u (by omega) hu).1 e)⟩
theorem zai {f : Nat → κ} {g : Nat → κ'} {n : Nat} (h : ∀ s t, s < n → t < n → (f s = f t ↔ g s = g t)) : ∀ {u : Nat}, u ≤ n → cntF f u = cntF g u
  | 0, _ => rfl
  | u + 1, hu => by
    show cntF f u + _ = cntF g u + _
    rw [zai h (by omega), zan h (show u < n by omega)]
theorem znv {f : Nat → κ} {g : Nat → κ'} {n : Nat} (h : ∀ s t, s < n → t < n → (f s = f t ↔ g s = g t)) {s : Nat} (hs : s < n) : z1t f s = z1t g s := by
  obtain ⟨h1, h2, h3⟩ := rf g s
  refine zk1 ?_ ((h _ _ (by omega) hs).2 h2) h1
  rw [zan h (by omega)]; exact z2e g s
theorem z5c {f : Nat → κ} {g : Nat → κ'} {n : Nat} (h : ∀ s t, s < n → t < n → (f s = f t ↔ g s = g t)) {s : Nat} (hs : s < n) : name f s = name g s := by
  have := (rf g s).1
  unfold name
  rw [znv h hs, zai h (by omega)]
/-! A map from keys to names, as the first k things are named. -/
def nmM (f : Nat → κ) : Nat → List (κ × Int)
  | 0 => []
  | k + 1 => nmM f k ++ if iy f k = true then [(f k, (cntF f k : Int))] else []
theorem zgy (f : Nat → κ) : ∀ k, (nmM f k).length = cntF f k
  | 0 => rfl
  | k + 1 => by
    show (nmM f k ++ _).length = cntF f k + _
    rw [List.length_append, zgy f k]
    split <;> rfl
theorem zjs {β : Type} {M M' : List (κ × β)} {x : κ} : z0x (M ++ M') x = (z0x M x || z0x M' x) := by
  induction M with
  | nil => rfl
  | cons p l ih =>
    show (if x = p.1 then true else z0x (l ++ M') x) = ((if x = p.1 then true else z0x l x) || z0x M' x)
    split
    · rfl
    · exact ih
theorem zj3 {β : Type} {z : β} {M M' : List (κ × β)} {x : κ} : lm z (M ++ M') x = if z0x M x = true then lm z M x else lm z M' x := by
  induction M with
  | nil => rfl
  | cons p l ih =>
    show (if x = p.1 then p.2 else lm z (l ++ M') x) = if (if x = p.1 then true else z0x l x) = true then (if x = p.1 then p.2 else lm z l x) else lm z M' x
    by_cases h : x = p.1
    · simp [h]
    · simp only [if_neg h]; exact ih
theorem zpy {β : Type} {M : List (κ × β)} {x : κ} {v : β} (h : z0x M x = false) : z2l M x v = M ++ [(x, v)] := by
  induction M with
  | nil => rfl
  | cons p l ih =>
    unfold z0x at h
    by_cases e : x = p.1
    · simp [e] at h
    · rw [if_neg e] at h
      simp only [z2l, if_neg e, ih h, List.cons_append]
theorem z7k (f : Nat → κ) (x : κ) : ∀ k, z0x (nmM f k) x = true ↔ ∃ t, t < k ∧ f t = x
  | 0 => ⟨fun h => by simp [nmM, z0x] at h, fun ⟨t, ht, _⟩ => by omega⟩
  | k + 1 => by
    show z0x (nmM f k ++ _) x = true ↔ _
    rw [zjs, Bool.or_eq_true, z7k f x k]
    constructor
    · rintro (⟨t, ht, h⟩ | h)
      · exact ⟨t, by omega, h⟩
      · split at h
        · by_cases e : x = f k
          · exact ⟨k, by omega, e.symm⟩
          · simp [z0x, e] at h
        · simp [z0x] at h
    · rintro ⟨t, ht, h⟩
      by_cases e : ∃ u, u < k ∧ f u = x
      · exact .inl e
      · have htk : t = k := by
          rcases Nat.lt_or_ge t k with h1 | h1
          · exact absurd ⟨t, h1, h⟩ e
          · omega
        subst htk
        right
        rw [if_pos (pu.2 fun u hu hne => e ⟨u, hu, hne.trans h⟩)]
        simp [z0x, h]
theorem zhk (f : Nat → κ) {s : Nat} : ∀ k, s < k → lm 0 (nmM f k) (f s) = (name f s : Int)
  | 0, h => by omega
  | k + 1, h => by
    show lm 0 (nmM f k ++ _) (f s) = _
    rw [zj3]
    by_cases e : z0x (nmM f k) (f s) = true
    · rw [if_pos e]
      obtain ⟨t, ht, hts⟩ := (z7k f _ k).1 e
      rw [← hts, zhk f k ht, zay.2 hts]
    · rw [if_neg e]
      have hf : ∀ u, u < k → f u ≠ f s := fun u hu hne => e ((z7k f _ k).2 ⟨u, hu, hne⟩)
      have hk : s = k := by
        rcases Nat.lt_or_ge s k with h1 | h1
        · exact absurd rfl (hf s h1)
        · omega
      subst hk
      have hfr := pu.2 hf
      rw [if_pos hfr, z6f hfr]
      simp [lm]
theorem zmt (f : Nat → κ) {k : Nat} (h : z0x (nmM f k) (f k) = false) : z2l (nmM f k) (f k) ((nmM f k).length : Int) = nmM f (k + 1) := by
  have hfr : iy f k = true := pu.2 fun t ht hne => by
    have := (z7k f (f k) k).2 ⟨t, ht, hne⟩
    rw [h] at this; cases this
  rw [zpy h, zgy]
  show _ = nmM f k ++ _
  rw [if_pos hfr]
theorem zmo (f : Nat → κ) {k : Nat} (h : z0x (nmM f k) (f k) = true) : nmM f (k + 1) = nmM f k := by
  obtain ⟨t, ht, hts⟩ := (z7k f _ k).1 h
  show nmM f k ++ _ = _
  rw [if_neg (fun hf => pu.1 hf t ht hts), List.append_nil]
def zoj (f : Nat → κ) (n : Nat) : List Int := (List.range n).map fun s => (name f s : Int)
theorem zl2 {f : Nat → κ} {g : Nat → κ'} {n : Nat} (h : ∀ s t, s < n → t < n → (f s = f t ↔ g s = g t)) : zoj f n = zoj g n := by
  unfold zoj
  refine List.map_congr_left fun s hs => ?_
  rw [z5c h (List.mem_range.1 hs)]
end names
def ak {κ : Type} [DecidableEq κ] (f : Nat → κ) (n : Nat) : List Nat := (List.range n).filter fun u => iy f u
section ak
variable {κ : Type} [DecidableEq κ] {f : Nat → κ}
theorem z96 (n : Nat) : ak f (n + 1) = ak f n ++ if iy f n = true then [n] else [] := by
  unfold ak
  rw [List.range_succ, List.filter_append]
  congr 1
  by_cases h : iy f n = true
  · rw [if_pos h, List.filter_cons_of_pos h]; rfl
  · rw [if_neg h, List.filter_cons_of_neg h]; rfl
theorem z00 : ∀ n, (ak f n).length = cntF f n
  | 0 => rfl
  | n + 1 => by
    rw [z96, List.length_append, z00 n]
    show _ = cntF f n + _
    split <;> rfl
theorem zf0 : ∀ {n u : Nat}, u < n → iy f u = true → (ak f n).getD (cntF f u) 0 = u
  | 0, u, h, _ => by omega
  | n + 1, u, h, hf => by
    rw [z96]
    by_cases e : u = n
    · subst e
      rw [if_pos hf, List.getD_eq_getElem?_getD, ← z00 u, List.getElem?_concat_length]; rfl
    · have h1 := z3t f (show u < n by omega) hf
      rw [List.getD_eq_getElem?_getD, List.getElem?_append_left (by rw [z00]; exact h1), ← List.getD_eq_getElem?_getD]
      exact zf0 (by omega) hf
theorem z0w {n c : Nat} (h : c < cntF f n) : (ak f n).getD c 0 < n ∧ iy f ((ak f n).getD c 0) = true ∧ cntF f ((ak f n).getD c 0) = c := by
  obtain ⟨u, hu, hf, rfl⟩ := zfx f h
  rw [zf0 hu hf]
  exact ⟨hu, hf, rfl⟩
end ak
end GV
end Go.Proofs.Ytkcccdcloealfaa
