import Derived.Test.YtkcccdcloealfaaLaw06a
set_option linter.unusedVariables false
set_option linter.unusedSimpArgs false
namespace Go.Proofs.Ytkcccdcloealfaa
namespace GV
set_option maxRecDepth 100000
def pos (L : List Nat) (t : Int) : Int := if t = -1 then -1 else (L.idxOf t.toNat : Int)
def rowP (m : Mach) (L : List Nat) (s : Nat) : List Edge := (m.rows.getD s default).map fun e => ⟨pos L e.to, e.out⟩
def nk (m : Mach) (L : List Nat) : Mach := ⟨m.inputs, m.outputs, L.map (rowP m L)⟩
structure ClosedP (m : Mach) (L : List Nat) : Prop where
  rng : ∀ s ∈ L, s < m.rows.length
  nd : L.Nodup
  cl : ∀ s ∈ L, ∀ i, i < m.inputs.toNat → ed m s i ≠ -1 → (ed m s i).toNat ∈ L
  ne : L ≠ []
theorem z3a {L : List Nat} {k : Nat} (hnd : L.Nodup) (hk : k < L.length) : L.idxOf (L.getD k 0) = k := by
  have : L.getD k 0 = L[k] := by simp [List.getD_eq_getElem?_getD, hk]
  rw [this]
  exact hnd.idxOf_getElem k hk
theorem z3x {L : List Nat} {t : Nat} (h : t ∈ L) : L.idxOf t < L.length ∧ L.getD (L.idxOf t) 0 = t := by
  have hl := List.idxOf_lt_length_iff.2 h
  refine ⟨hl, ?_⟩
  simp [List.getD_eq_getElem?_getD, hl]
section
variable {m : Mach} {L : List Nat}
theorem ClosedP.len (hc : ClosedP m L) : L.length ≤ m.rows.length := by
  have := List.Nodup.length_le_of_subset hc.nd (l₂ := List.range m.rows.length) (fun x hx => List.mem_range.2 (hc.rng x hx))
  simpa using this
theorem z6r {k : Nat} (hk : k < L.length) : (nk m L).rows.getD k default = rowP m L (L.getD k 0) := by
  unfold nk
  simp [List.getD_eq_getElem?_getD, hk]
theorem z6i (hm : MOk m) {s : Nat} (hs : s < m.rows.length) : (rowP m L s).length = m.inputs.toNat := by
  unfold rowP
  have := hm.row s hs
  rw [List.length_map]; omega
theorem z6b (hm : MOk m) {s i : Nat} (hs : s < m.rows.length) (hi : i < m.inputs.toNat) : (rowP m L s).getD i default = ⟨pos L (ed m s i), ((m.rows.getD s default).getD i default).out⟩ := by
  have := hm.row s hs
  unfold rowP ed
  simp only [List.getD_eq_getElem?_getD, List.getElem?_map]
  rw [← List.getD_eq_getElem?_getD, List.getElem?_eq_getElem (show i < (m.rows.getD s default).length by omega)]
  rfl
theorem zv5 (hm : MOk m) (hc : ClosedP m L) {s i : Nat} (hs : s ∈ L) (hi : i < m.inputs.toNat) : pos L (ed m s i) = -1 ∧ ed m s i = -1 ∨ (0 ≤ pos L (ed m s i) ∧ pos L (ed m s i) < L.length ∧ 0 ≤ ed m s i ∧ L.getD (pos L (ed m s i)).toNat 0 = (ed m s i).toNat) := by
  unfold pos
  rcases z14 hm (hc.rng s hs) hi with h | ⟨h1, h2⟩
  · left; rw [if_pos h]; exact ⟨rfl, h⟩
  · right
    have hne : ed m s i ≠ -1 := by omega
    obtain ⟨h3, h4⟩ := z3x (hc.cl s hs i hi hne)
    rw [if_neg hne]
    exact ⟨by omega, by omega, h1, by rw [Int.toNat_natCast]; exact h4⟩
theorem zjo (hm : MOk m) (hc : ClosedP m L) : MOk (nk m L) := by
  have hlen := hc.len
  have hr2 := hm.r2
  have hl : (nk m L).rows.length = L.length := by simp [nk]
  have hpos : 0 < L.length := List.length_pos_iff.2 hc.ne
  have hmem : ∀ k, k < L.length → L.getD k 0 ∈ L := fun k hk => by simp [List.getD_eq_getElem?_getD, hk]
  refine ⟨hm.i1, hm.i2, hm.o1, hm.o2, by omega, by omega, fun s hs => ?_, fun s i hs hi => ?_⟩
  · rw [hl] at hs
    rw [z6r hs, z6i hm (hc.rng _ (hmem s hs))]
    have := hm.i1
    show _ = m.inputs
    omega
  · rw [hl] at hs
    rw [z6r hs] at hi ⊢
    have hx := hc.rng _ (hmem s hs)
    rw [z6i hm hx] at hi
    rw [z6b hm hx hi]
    have he := hm.edge _ i hx (by have := hm.row _ hx; omega)
    rcases zv5 hm hc (hmem s hs) hi with ⟨h1, h2⟩ | ⟨h1, h2, h3, _⟩
    · rcases he with ⟨_, h5⟩ | ⟨h4, _⟩
      · left; exact ⟨h1, h5⟩
      · exfalso
        have : ed m (L.getD s 0) i = ((m.rows.getD (L.getD s 0) default).getD i default).to := rfl
        omega
    · rcases he with ⟨h4, _⟩ | ⟨_, _, h5, h6⟩
      · exfalso
        have : ed m (L.getD s 0) i = ((m.rows.getD (L.getD s 0) default).getD i default).to := rfl
        omega
      · right
        exact ⟨h1, by rw [hl]; exact h2, h5, h6⟩
theorem zoq (hm : MOk m) (hc : ClosedP m L) {s : Int} (hs : s = -1 ∨ (0 ≤ s ∧ s.toNat ∈ L)) {i : Int} (hi : 0 ≤ i ∧ i < m.inputs) :
    p9 (nk m L) (pos L s) i = ⟨pos L (p9 m s i).to, (p9 m s i).out⟩ ∧ ((p9 m s i).to = -1 ∨ (0 ≤ (p9 m s i).to ∧ (p9 m s i).to.toNat ∈ L)) := by
  rcases hs with rfl | ⟨h0, hs⟩
  · exact ⟨rfl, .inl rfl⟩
  · obtain ⟨h1, h2⟩ := z3x hs
    have hp : pos L s = (L.idxOf s.toNat : Int) := by unfold pos; rw [if_neg (by omega)]
    have hi' : i.toNat < m.inputs.toNat := by omega
    have hx := hc.rng _ hs
    unfold p9
    rw [hp, if_neg (by omega), if_neg (by omega), Int.toNat_natCast, z6r h1, h2, z6b hm hx hi']
    refine ⟨rfl, ?_⟩
    show ed m s.toNat i.toNat = -1 ∨ (0 ≤ ed m s.toNat i.toNat ∧ (ed m s.toNat i.toNat).toNat ∈ L)
    rcases z14 hm hx hi' with h | ⟨h3, _⟩
    · exact .inl h
    · exact .inr ⟨h3, hc.cl _ hs _ hi' (by omega)⟩
theorem zis (hm : MOk m) (hc : ClosedP m L) : ∀ (w : List Int) {s : Int}, (s = -1 ∨ (0 ≤ s ∧ s.toNat ∈ L)) → WOk m.inputs w → z0j (nk m L) (pos L s) w = z0j m s w ∧ nu (nk m L) (pos L s) w = pos L (nu m s w)
  | [], s, hs, _ => ⟨rfl, rfl⟩
  | i :: w, s, hs, hw => by
    have hi := hw 0 (by simp)
    obtain ⟨h1, h2⟩ := zoq hm hc hs (i := i) hi
    have hw' : WOk m.inputs w := fun k hk => hw (k + 1) (by simpa using hk)
    obtain ⟨h3, h4⟩ := zis hm hc w h2 hw'
    refine ⟨?_, ?_⟩
    · show (p9 (nk m L) (pos L s) i).out :: z0j (nk m L) (p9 (nk m L) (pos L s) i).to w = _
      rw [h1, h3]; rfl
    · show nu (nk m L) (p9 (nk m L) (pos L s) i).to w = _
      rw [h1, h4]; rfl
end
/-! ### The program's part -/
theorem zcn {M : List (Int × Int)} {k v z t : Int} : lm z (z2l M k v) t = if t = k then v else lm z M t := by
  induction M with
  | nil => simp [z2l, lm]
  | cons p l ih =>
    unfold z2l
    by_cases h : k = p.1
    · rw [if_pos h]
      simp only [lm]
      by_cases ht : t = k
      · rw [if_pos ht, if_pos ht]
      · rw [if_neg ht, if_neg ht, if_neg (by rw [← h]; exact ht)]
    · rw [if_neg h]
      simp only [lm]
      by_cases ht : t = p.1
      · rw [if_pos ht, if_neg (by rw [ht]; exact fun e => h e.symm), if_pos ht]
      · rw [if_neg ht, ih, if_neg ht]
def fo (L : List Nat) : List Int := L.map fun s => ((s : Nat) : Int)
theorem r9 (L : List Nat) : (fo L).length = L.length := by simp [fo]
theorem z4e {L : List Nat} {k : Nat} (hk : k < L.length) : ix (fo L) (k : Int) = ((L.getD k 0 : Nat) : Int) := by
  rw [si]
  simp [fo, List.getD_eq_getElem?_getD, hk]
theorem z5b {α : Type} [Inhabited α] (P : List α) (k : Nat) (h : k < P.length) : P.take (k + 1) = P.take k ++ [P.getD k default] := by
  rw [List.take_add_one]; simp [List.getD_eq_getElem?_getD, h]
theorem zgu {α : Type} {X : List α} {n k : Nat} {z y : α} (hl : X.length = k) (hk : k < n) : (X ++ List.replicate (n - k) z).set k y = (X ++ [y]) ++ List.replicate (n - (k + 1)) z := by
  rw [show n - k = (n - (k + 1)) + 1 by omega, List.replicate_succ, List.set_append_right _ _ (by omega), hl, Nat.sub_self]
  simp
theorem zhe {N : Nat} {m : Mach} {L : List Nat} (hm : MOk m) (hc : ClosedP m L) (hN : 200 ≤ N) : lc N m (fo L) = some (nk m L) := by
  have hlen := hc.len
  have hr2 := hm.r2
  have hi1 := hm.i1
  have hi2 := hm.i2
  have hmem : ∀ k, k < L.length → L.getD k 0 ∈ L := fun k hk => by simp [List.getD_eq_getElem?_getD, hk]
  unfold lc
  obtain ⟨M, hM, hMr⟩ : ∃ M, mr N (fo L) N 0 (z2l ([] : List (Int × Int)) (-1) (-1)) = some M ∧ (lm 0 M (-1) = -1 ∧ ∀ j, j < L.length → lm 0 M ((L.getD j 0 : Nat) : Int) = (j : Int)) := by
    refine z8c (σ := List (Int × Int)) (fun F k st => mr N (fo L) F (k : Int) st) L.length (fun k st => lm 0 st (-1) = -1 ∧ ∀ j, j < k → lm 0 st ((L.getD j 0 : Nat) : Int) = (j : Int)) _ (fun F k st hk hi => ?_) (fun F st hi => ?_) N 0 _ (Nat.zero_le _) (by omega) ⟨by rw [zcn, if_pos rfl], fun j hj => by omega⟩
    · right
      refine ⟨z2l st ((L.getD k 0 : Nat) : Int) (k : Int), ⟨by rw [zcn, if_neg (by omega)]; exact hi.1, fun j hj => ?_⟩, ?_⟩
      · rw [zcn]
        by_cases e : j = k
        · subst e; rw [if_pos rfl]
        · rw [if_neg, hi.2 j (by omega)]
          intro he
          have h1 := z3a hc.nd (show j < L.length by omega)
          have h2 := z3a hc.nd hk
          rw [show L.getD j 0 = L.getD k 0 by omega, h2] at h1
          omega
      · simp only [mr, z4e hk]
        rw [dn (by rw [r9]; omega), zu (j5 (by rw [r9]; exact hk)), zu (jg (by omega))]; rfl
    · refine ⟨st, ?_, hi⟩
      simp only [mr]
      rw [xw (by rw [r9]; omega)]
  rw [qf hM, r9, zu ⟨by omega, by omega, by omega⟩]
  have hmg : ∀ s ∈ L, ∀ i, i < m.inputs.toNat → lm 0 M (ed m s i) = pos L (ed m s i) := fun s hs i hi => by
    unfold pos
    rcases z14 hm (hc.rng s hs) hi with h | ⟨h1, h2⟩
    · rw [if_pos h, h]; exact hMr.1
    · have hne : ed m s i ≠ -1 := by omega
      obtain ⟨h3, h4⟩ := z3x (hc.cl s hs i hi hne)
      have := hMr.2 _ h3
      rw [h4, Int.toNat_of_nonneg h1] at this
      rw [if_neg hne, this]
  have hrow : ∀ (k : Nat) (X : List (List Edge)), k < L.length → X.length = L.length → tq N m (fo L) M (k : Int) N 0 (up X (k : Int) (mk m.inputs (⟨0, 0⟩ : Edge))) = some (X.set k (rowP m L (L.getD k 0))) := fun k X hk hX => by
    have hx := hc.rng _ (hmem k hk)
    have hmr := hm.row _ hx
    have hrl := z6i (L := L) hm hx
    refine xc (σ := List (List Edge)) (fun F i st => tq N m (fo L) M (k : Int) F (i : Int) st) m.inputs.toNat (fun i st => st = X.set k ((rowP m L (L.getD k 0)).take i ++ List.replicate (m.inputs.toNat - i) ⟨0, 0⟩)) _ (fun F i st hi hst => ?_) (fun F st hst => ?_) N 0 _ (Nat.zero_le _) (by omega) (by rw [z6v]; simp [mk])
    · subst hst
      right
      refine ⟨_, rfl, ?_⟩
      have hXl : (X.set k ((rowP m L (L.getD k 0)).take i ++ List.replicate (m.inputs.toNat - i) (⟨0, 0⟩ : Edge))).length = L.length := by rw [List.length_set, hX]
      have hget : ix (X.set k ((rowP m L (L.getD k 0)).take i ++ List.replicate (m.inputs.toNat - i) (⟨0, 0⟩ : Edge))) (k : Int) = (rowP m L (L.getD k 0)).take i ++ List.replicate (m.inputs.toNat - i) (⟨0, 0⟩ : Edge) := by
        rw [si, List.getD_eq_getElem?_getD, List.getElem?_set, if_pos rfl, if_pos (by omega)]; rfl
      have hrw : ix m.rows ((L.getD k 0 : Nat) : Int) = m.rows.getD (L.getD k 0) default := si _ _
      have hed : (ix (m.rows.getD (L.getD k 0) default) (i : Int)).to = ed m (L.getD k 0) i := by rw [si]; rfl
      simp only [tq, z4e hk, hrw, hed, hget]
      rw [dn (by omega), zu (j5 (by omega)), zu (j5 (by omega)), qf (show z3y N ⟨ed m (L.getD k 0) i, (ix (m.rows.getD (L.getD k 0) default) (i : Int)).out⟩ M = some ⟨lm 0 M (ed m (L.getD k 0) i), (ix (m.rows.getD (L.getD k 0) default) (i : Int)).out⟩ from rfl)]
      rw [zu (j5 (by rw [List.length_append, List.length_take, List.length_replicate]; omega)), zu (jg (by omega)), hmg _ (hmem k hk) i hi]
      have htl : ((rowP m L (L.getD k 0)).take i).length = i := by rw [List.length_take]; omega
      have hup : up (X.set k ((rowP m L (L.getD k 0)).take i ++ List.replicate (m.inputs.toNat - i) (⟨0, 0⟩ : Edge))) (k : Int) (up ((rowP m L (L.getD k 0)).take i ++ List.replicate (m.inputs.toNat - i) (⟨0, 0⟩ : Edge)) (i : Int) ⟨pos L (ed m (L.getD k 0) i), (ix (m.rows.getD (L.getD k 0) default) (i : Int)).out⟩) = X.set k ((rowP m L (L.getD k 0)).take (i + 1) ++ List.replicate (m.inputs.toNat - (i + 1)) ⟨0, 0⟩) := by
        rw [z6v, z6v, List.set_set, zgu htl hi]
        rw [z5b _ _ (show i < (rowP m L (L.getD k 0)).length by omega), z6b hm hx hi, si]
      rw [hup]; rfl
    · subst hst
      have hrw : ix m.rows ((L.getD k 0 : Nat) : Int) = m.rows.getD (L.getD k 0) default := si _ _
      simp only [tq, z4e hk, hrw]
      rw [xw (by omega), Nat.sub_self, List.replicate_zero, List.append_nil, ← hrl, List.take_length]
  have hL2 : tu N m (fo L) M N 0 (mk (L.length : Int) ([] : List Edge)) = some (L.map (rowP m L)) := by
    refine xc (σ := List (List Edge)) (fun F k st => tu N m (fo L) M F (k : Int) st) L.length (fun k st => st = (L.map (rowP m L)).take k ++ List.replicate (L.length - k) []) _ (fun F k st hk hst => ?_) (fun F st hst => ?_) N 0 _ (Nat.zero_le _) (by omega) (by rw [z88]; simp)
    · subst hst
      right
      refine ⟨_, rfl, ?_⟩
      have hx := hc.rng _ (hmem k hk)
      have htl : ((L.map (rowP m L)).take k).length = k := by rw [List.length_take, List.length_map]; omega
      have hX : ((L.map (rowP m L)).take k ++ List.replicate (L.length - k) ([] : List Edge)).length = L.length := by rw [List.length_append, htl, List.length_replicate]; omega
      simp only [tu, z4e hk]
      rw [dn (by rw [r9]; omega)]
      refine (qf (x := (L.map (rowP m L)).take (k + 1) ++ List.replicate (L.length - (k + 1)) []) ?_).trans ?_
      · rw [zu (j5 (by rw [r9]; exact hk)), zu ⟨by omega, by omega, by omega⟩, zu (j5 (by omega)), zu (j5 hx), hrow k _ hk hX, zgu htl hk]
        congr 2
        rw [List.take_add_one]; simp [List.getD_eq_getElem?_getD, hk]
      · exact zu (jg (by omega))
    · subst hst
      simp only [tu]
      rw [xw (by rw [r9]; omega), Nat.sub_self, List.replicate_zero, List.append_nil, ← (show (L.map (rowP m L)).length = L.length by simp), List.take_length]
  rw [qf hL2]; rfl
end GV
end Go.Proofs.Ytkcccdcloealfaa
