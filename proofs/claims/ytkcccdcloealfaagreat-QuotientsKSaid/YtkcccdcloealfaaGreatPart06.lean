import Derived.Test.YtkcccdcloealfaaGreatLaw06a
set_option linter.unusedVariables false
set_option linter.unusedSimpArgs false
namespace Go.Proofs.YtkcccdcloealfaaGreat
namespace GV
set_option maxRecDepth 100000
def pos (L : List Nat) (t : Int) : Int := if t = -1 then -1 else (L.idxOf t.toNat : Int)
def rowP (m : Mach) (L : List Nat) (s : Nat) : List Edge := (m.rows.getD s default).map fun e => ⟨pos L e.to, e.out⟩
def z09 (m : Mach) (L : List Nat) : Mach := ⟨m.inputs, m.outputs, L.map (rowP m L)⟩
structure ClosedP (m : Mach) (L : List Nat) : Prop where
  rng : ∀ s ∈ L, s < m.rows.length
  nd : L.Nodup
  cl : ∀ s ∈ L, ∀ i, i < m.inputs.toNat → ed m s i ≠ -1 → (ed m s i).toNat ∈ L
  ne : L ≠ []
theorem z4p {L : List Nat} {k : Nat} (hnd : L.Nodup) (hk : k < L.length) : L.idxOf (L.getD k 0) = k := by
  have : L.getD k 0 = L[k] := by simp [List.getD_eq_getElem?_getD, hk]
  rw [this]
  exact hnd.idxOf_getElem k hk
theorem z6p {L : List Nat} {t : Nat} (h : t ∈ L) : L.idxOf t < L.length ∧ L.getD (L.idxOf t) 0 = t := by
  have hl := List.idxOf_lt_length_iff.2 h
  refine ⟨hl, ?_⟩
  simp [List.getD_eq_getElem?_getD, hl]
section
variable {m : Mach} {L : List Nat}
theorem ClosedP.len (hc : ClosedP m L) : L.length ≤ m.rows.length := by
  have := List.Nodup.length_le_of_subset hc.nd (l₂ := List.range m.rows.length) (fun x hx => List.mem_range.2 (hc.rng x hx))
  simpa using this
theorem z99 {k : Nat} (hk : k < L.length) : (z09 m L).rows.getD k default = rowP m L (L.getD k 0) := by
  unfold z09
  simp [List.getD_eq_getElem?_getD, hk]
theorem z9p (hm : MOk m) {s : Nat} (hs : s < m.rows.length) : (rowP m L s).length = m.inputs.toNat := by
  unfold rowP
  have := hm.row s hs
  rw [List.length_map]; omega
theorem z8r (hm : MOk m) {s i : Nat} (hs : s < m.rows.length) (hi : i < m.inputs.toNat) : (rowP m L s).getD i default = ⟨pos L (ed m s i), ((m.rows.getD s default).getD i default).out⟩ := by
  have := hm.row s hs
  unfold rowP ed
  simp only [List.getD_eq_getElem?_getD, List.getElem?_map]
  rw [← List.getD_eq_getElem?_getD, List.getElem?_eq_getElem (show i < (m.rows.getD s default).length by omega)]
  rfl
theorem q1d (hm : MOk m) (hc : ClosedP m L) {s i : Nat} (hs : s ∈ L) (hi : i < m.inputs.toNat) : pos L (ed m s i) = -1 ∧ ed m s i = -1 ∨ (0 ≤ pos L (ed m s i) ∧ pos L (ed m s i) < L.length ∧ 0 ≤ ed m s i ∧ L.getD (pos L (ed m s i)).toNat 0 = (ed m s i).toNat) := by
  unfold pos
  rcases z4h hm (hc.rng s hs) hi with h | ⟨h1, h2⟩
  · left; rw [if_pos h]; exact ⟨rfl, h⟩
  · right
    have hne : ed m s i ≠ -1 := by omega
    obtain ⟨h3, h4⟩ := z6p (hc.cl s hs i hi hne)
    rw [if_neg hne]
    exact ⟨by omega, by omega, h1, by rw [Int.toNat_natCast]; exact h4⟩
theorem zq3 (hm : MOk m) (hc : ClosedP m L) : MOk (z09 m L) := by
  have hlen := hc.len
  have hr2 := hm.r2
  have hl : (z09 m L).rows.length = L.length := by simp [z09]
  have hpos : 0 < L.length := List.length_pos_iff.2 hc.ne
  have hmem : ∀ k, k < L.length → L.getD k 0 ∈ L := fun k hk => by simp [List.getD_eq_getElem?_getD, hk]
  refine ⟨hm.i1, hm.i2, hm.o1, hm.o2, by omega, by omega, fun s hs => ?_, fun s i hs hi => ?_⟩
  · rw [hl] at hs
    rw [z99 hs, z9p hm (hc.rng _ (hmem s hs))]
    have := hm.i1
    show _ = m.inputs
    omega
  · rw [hl] at hs
    rw [z99 hs] at hi ⊢
    have hx := hc.rng _ (hmem s hs)
    rw [z9p hm hx] at hi
    rw [z8r hm hx hi]
    have he := hm.edge _ i hx (by have := hm.row _ hx; omega)
    rcases q1d hm hc (hmem s hs) hi with ⟨h1, h2⟩ | ⟨h1, h2, h3, _⟩
    · rcases he with ⟨_, h5⟩ | ⟨h4, _⟩
      · left; exact ⟨h1, h5⟩
      · exfalso
        have : ed m (L.getD s 0) i = ((m.rows.getD (L.getD s 0) default).getD i default).to := rfl
        omega
    · rcases he with ⟨h4, _⟩ | ⟨_, _, h5, h6⟩
      · exfalso
        have : ed m (L.getD s 0) i = ((m.rows.getD (L.getD s 0) default).getD i default).to := rfl
        omega
      · right
        exact ⟨h1, by rw [hl]; exact h2, h5, h6⟩
theorem zu7 (hm : MOk m) (hc : ClosedP m L) {s : Int} (hs : s = -1 ∨ (0 ≤ s ∧ s.toNat ∈ L)) {i : Int} (hi : 0 ≤ i ∧ i < m.inputs) :
    lc (z09 m L) (pos L s) i = ⟨pos L (lc m s i).to, (lc m s i).out⟩ ∧ ((lc m s i).to = -1 ∨ (0 ≤ (lc m s i).to ∧ (lc m s i).to.toNat ∈ L)) := by
  rcases hs with rfl | ⟨h0, hs⟩
  · exact ⟨rfl, .inl rfl⟩
  · obtain ⟨h1, h2⟩ := z6p hs
    have hp : pos L s = (L.idxOf s.toNat : Int) := by unfold pos; rw [if_neg (by omega)]
    have hi' : i.toNat < m.inputs.toNat := by omega
    have hx := hc.rng _ hs
    unfold lc
    rw [hp, if_neg (by omega), if_neg (by omega), Int.toNat_natCast, z99 h1, h2, z8r hm hx hi']
    refine ⟨rfl, ?_⟩
    show ed m s.toNat i.toNat = -1 ∨ (0 ≤ ed m s.toNat i.toNat ∧ (ed m s.toNat i.toNat).toNat ∈ L)
    rcases z4h hm hx hi' with h | ⟨h3, _⟩
    · exact .inl h
    · exact .inr ⟨h3, hc.cl _ hs _ hi' (by omega)⟩
theorem zgh (hm : MOk m) (hc : ClosedP m L) : ∀ (w : List Int) {s : Int}, (s = -1 ∨ (0 ≤ s ∧ s.toNat ∈ L)) → WOk m.inputs w → z2a (z09 m L) (pos L s) w = z2a m s w ∧ l9 (z09 m L) (pos L s) w = pos L (l9 m s w)
  | [], s, hs, _ => ⟨rfl, rfl⟩
  | i :: w, s, hs, hw => by
    have hi := hw 0 (by simp)
    obtain ⟨h1, h2⟩ := zu7 hm hc hs (i := i) hi
    have hw' : WOk m.inputs w := fun k hk => hw (k + 1) (by simpa using hk)
    obtain ⟨h3, h4⟩ := zgh hm hc w h2 hw'
    refine ⟨?_, ?_⟩
    · show (lc (z09 m L) (pos L s) i).out :: z2a (z09 m L) (lc (z09 m L) (pos L s) i).to w = _
      rw [h1, h3]; rfl
    · show l9 (z09 m L) (lc (z09 m L) (pos L s) i).to w = _
      rw [h1, h4]; rfl
end
/-! ### The program's part -/
theorem zhc {M : List (Int × Int)} {k v z t : Int} : z3j z (z7v M k v) t = if t = k then v else z3j z M t := by
  induction M with
  | nil => simp [z7v, z3j]
  | cons p l ih =>
    unfold z7v
    by_cases h : k = p.1
    · rw [if_pos h]
      simp only [z3j]
      by_cases ht : t = k
      · rw [if_pos ht, if_pos ht]
      · rw [if_neg ht, if_neg ht, if_neg (by rw [← h]; exact ht)]
    · rw [if_neg h]
      simp only [z3j]
      by_cases ht : t = p.1
      · rw [if_pos ht, if_neg (by rw [ht]; exact fun e => h e.symm), if_pos ht]
      · rw [if_neg ht, ih, if_neg ht]
def ry (L : List Nat) : List Int := L.map fun s => ((s : Nat) : Int)
theorem z11 (L : List Nat) : (ry L).length = L.length := by simp [ry]
theorem z5z {L : List Nat} {k : Nat} (hk : k < L.length) : ix (ry L) (k : Int) = ((L.getD k 0 : Nat) : Int) := by
  rw [r9]
  simp [ry, List.getD_eq_getElem?_getD, hk]
theorem z5t {α : Type} [Inhabited α] (P : List α) (k : Nat) (h : k < P.length) : P.take (k + 1) = P.take k ++ [P.getD k default] := by
  rw [List.take_add_one]; simp [List.getD_eq_getElem?_getD, h]
theorem zmb {α : Type} {X : List α} {n k : Nat} {z y : α} (hl : X.length = k) (hk : k < n) : (X ++ List.replicate (n - k) z).set k y = (X ++ [y]) ++ List.replicate (n - (k + 1)) z := by
  rw [show n - k = (n - (k + 1)) + 1 by omega, List.replicate_succ, List.set_append_right _ _ (by omega), hl, Nat.sub_self]
  simp
theorem znv {N : Nat} {m : Mach} {L : List Nat} (hm : MOk m) (hc : ClosedP m L) (hN : 200 ≤ N) : z3h N m (ry L) = some (z09 m L) := by
  have hlen := hc.len
  have hr2 := hm.r2
  have hi1 := hm.i1
  have hi2 := hm.i2
  have hmem : ∀ k, k < L.length → L.getD k 0 ∈ L := fun k hk => by simp [List.getD_eq_getElem?_getD, hk]
  unfold z3h
  obtain ⟨M, hM, hMr⟩ : ∃ M, z16 N (ry L) N 0 (z7v ([] : List (Int × Int)) (-1) (-1)) = some M ∧ (z3j 0 M (-1) = -1 ∧ ∀ j, j < L.length → z3j 0 M ((L.getD j 0 : Nat) : Int) = (j : Int)) := by
    refine z2o (σ := List (Int × Int)) (fun F k st => z16 N (ry L) F (k : Int) st) L.length (fun k st => z3j 0 st (-1) = -1 ∧ ∀ j, j < k → z3j 0 st ((L.getD j 0 : Nat) : Int) = (j : Int)) _ (fun F k st hk hi => ?_) (fun F st hi => ?_) N 0 _ (Nat.zero_le _) (by omega) ⟨by rw [zhc, if_pos rfl], fun j hj => by omega⟩
    · right
      refine ⟨z7v st ((L.getD k 0 : Nat) : Int) (k : Int), ⟨by rw [zhc, if_neg (by omega)]; exact hi.1, fun j hj => ?_⟩, ?_⟩
      · rw [zhc]
        by_cases e : j = k
        · subst e; rw [if_pos rfl]
        · rw [if_neg, hi.2 j (by omega)]
          intro he
          have h1 := z4p hc.nd (show j < L.length by omega)
          have h2 := z4p hc.nd hk
          rw [show L.getD j 0 = L.getD k 0 by omega, h2] at h1
          omega
      · simp only [z16, z5z hk]
        rw [wu (by rw [z11]; omega), zq (qo (by rw [z11]; exact hk)), zq (qy (by omega))]; rfl
    · refine ⟨st, ?_, hi⟩
      simp only [z16]
      rw [uo (by rw [z11]; omega)]
  rw [zy hM, z11, zq ⟨by omega, by omega, by omega⟩]
  have hmg : ∀ s ∈ L, ∀ i, i < m.inputs.toNat → z3j 0 M (ed m s i) = pos L (ed m s i) := fun s hs i hi => by
    unfold pos
    rcases z4h hm (hc.rng s hs) hi with h | ⟨h1, h2⟩
    · rw [if_pos h, h]; exact hMr.1
    · have hne : ed m s i ≠ -1 := by omega
      obtain ⟨h3, h4⟩ := z6p (hc.cl s hs i hi hne)
      have := hMr.2 _ h3
      rw [h4, Int.toNat_of_nonneg h1] at this
      rw [if_neg hne, this]
  have hrow : ∀ (k : Nat) (X : List (List Edge)), k < L.length → X.length = L.length → z19 N m (ry L) M (k : Int) N 0 (up X (k : Int) (mk m.inputs (⟨0, 0⟩ : Edge))) = some (X.set k (rowP m L (L.getD k 0))) := fun k X hk hX => by
    have hx := hc.rng _ (hmem k hk)
    have hmr := hm.row _ hx
    have hrl := z9p (L := L) hm hx
    refine ui (σ := List (List Edge)) (fun F i st => z19 N m (ry L) M (k : Int) F (i : Int) st) m.inputs.toNat (fun i st => st = X.set k ((rowP m L (L.getD k 0)).take i ++ List.replicate (m.inputs.toNat - i) ⟨0, 0⟩)) _ (fun F i st hi hst => ?_) (fun F st hst => ?_) N 0 _ (Nat.zero_le _) (by omega) (by rw [z5u]; simp [mk])
    · subst hst
      right
      refine ⟨_, rfl, ?_⟩
      have hXl : (X.set k ((rowP m L (L.getD k 0)).take i ++ List.replicate (m.inputs.toNat - i) (⟨0, 0⟩ : Edge))).length = L.length := by rw [List.length_set, hX]
      have hget : ix (X.set k ((rowP m L (L.getD k 0)).take i ++ List.replicate (m.inputs.toNat - i) (⟨0, 0⟩ : Edge))) (k : Int) = (rowP m L (L.getD k 0)).take i ++ List.replicate (m.inputs.toNat - i) (⟨0, 0⟩ : Edge) := by
        rw [r9, List.getD_eq_getElem?_getD, List.getElem?_set, if_pos rfl, if_pos (by omega)]; rfl
      have hrw : ix m.rows ((L.getD k 0 : Nat) : Int) = m.rows.getD (L.getD k 0) default := r9 _ _
      have hed : (ix (m.rows.getD (L.getD k 0) default) (i : Int)).to = ed m (L.getD k 0) i := by rw [r9]; rfl
      simp only [z19, z5z hk, hrw, hed, hget]
      rw [wu (by omega), zq (qo (by omega)), zq (qo (by omega)), zy (show z92 N ⟨ed m (L.getD k 0) i, (ix (m.rows.getD (L.getD k 0) default) (i : Int)).out⟩ M = some ⟨z3j 0 M (ed m (L.getD k 0) i), (ix (m.rows.getD (L.getD k 0) default) (i : Int)).out⟩ from rfl)]
      rw [zq (qo (by rw [List.length_append, List.length_take, List.length_replicate]; omega)), zq (qy (by omega)), hmg _ (hmem k hk) i hi]
      have htl : ((rowP m L (L.getD k 0)).take i).length = i := by rw [List.length_take]; omega
      have hup : up (X.set k ((rowP m L (L.getD k 0)).take i ++ List.replicate (m.inputs.toNat - i) (⟨0, 0⟩ : Edge))) (k : Int) (up ((rowP m L (L.getD k 0)).take i ++ List.replicate (m.inputs.toNat - i) (⟨0, 0⟩ : Edge)) (i : Int) ⟨pos L (ed m (L.getD k 0) i), (ix (m.rows.getD (L.getD k 0) default) (i : Int)).out⟩) = X.set k ((rowP m L (L.getD k 0)).take (i + 1) ++ List.replicate (m.inputs.toNat - (i + 1)) ⟨0, 0⟩) := by
        rw [z5u, z5u, List.set_set, zmb htl hi]
        rw [z5t _ _ (show i < (rowP m L (L.getD k 0)).length by omega), z8r hm hx hi, r9]
      rw [hup]; rfl
    · subst hst
      have hrw : ix m.rows ((L.getD k 0 : Nat) : Int) = m.rows.getD (L.getD k 0) default := r9 _ _
      simp only [z19, z5z hk, hrw]
      rw [uo (by omega), Nat.sub_self, List.replicate_zero, List.append_nil, ← hrl, List.take_length]
  have hL2 : z14 N m (ry L) M N 0 (mk (L.length : Int) ([] : List Edge)) = some (L.map (rowP m L)) := by
    refine ui (σ := List (List Edge)) (fun F k st => z14 N m (ry L) M F (k : Int) st) L.length (fun k st => st = (L.map (rowP m L)).take k ++ List.replicate (L.length - k) []) _ (fun F k st hk hst => ?_) (fun F st hst => ?_) N 0 _ (Nat.zero_le _) (by omega) (by rw [z7n]; simp)
    · subst hst
      right
      refine ⟨_, rfl, ?_⟩
      have hx := hc.rng _ (hmem k hk)
      have htl : ((L.map (rowP m L)).take k).length = k := by rw [List.length_take, List.length_map]; omega
      have hX : ((L.map (rowP m L)).take k ++ List.replicate (L.length - k) ([] : List Edge)).length = L.length := by rw [List.length_append, htl, List.length_replicate]; omega
      simp only [z14, z5z hk]
      rw [wu (by rw [z11]; omega)]
      refine (zy (x := (L.map (rowP m L)).take (k + 1) ++ List.replicate (L.length - (k + 1)) []) ?_).trans ?_
      · rw [zq (qo (by rw [z11]; exact hk)), zq ⟨by omega, by omega, by omega⟩, zq (qo (by omega)), zq (qo hx), hrow k _ hk hX, zmb htl hk]
        congr 2
        rw [List.take_add_one]; simp [List.getD_eq_getElem?_getD, hk]
      · exact zq (qy (by omega))
    · subst hst
      simp only [z14]
      rw [uo (by rw [z11]; omega), Nat.sub_self, List.replicate_zero, List.append_nil, ← (show (L.map (rowP m L)).length = L.length by simp), List.take_length]
  rw [zy hL2]; rfl
end GV
end Go.Proofs.YtkcccdcloealfaaGreat
