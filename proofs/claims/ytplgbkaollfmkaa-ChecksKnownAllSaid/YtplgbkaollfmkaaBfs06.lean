import Derived.Test.YtplgbkaollfmkaaPlain04
set_option linter.unusedVariables false
set_option linter.unusedSimpArgs false
namespace Go.Proofs.Ytplgbkaollfmkaa
namespace GV
/-! ### The order of words -/
def zax : List Int → List Int → Prop
  | a :: x, b :: y => a < b ∨ (a = b ∧ zax x y)
  | _, _ => False
def llt (a b : List Int) : Prop := a.length < b.length ∨ (a.length = b.length ∧ zax a b)
def lle (a b : List Int) : Prop := a = b ∨ llt a b
theorem zb0 : ∀ {a b c}, zax a b → zax b c → zax a c
  | [], _, _, h, _ => h.elim
  | _ :: _, [], _, h, _ => h.elim
  | _ :: _, _ :: _, [], _, h => h.elim
  | x :: a, y :: b, z :: c, h, k => by
    rcases h with h | ⟨rfl, h⟩
    · rcases k with k | ⟨rfl, k⟩
      · exact .inl (by omega)
      · exact .inl h
    · rcases k with k | ⟨rfl, k⟩
      · exact .inl k
      · exact .inr ⟨rfl, zb0 h k⟩
theorem zd6 : ∀ {a b : List Int} (i j : Int), zax a b → a.length = b.length → zax (a ++ [i]) (b ++ [j])
  | [], _, _, _, h, _ => h.elim
  | _ :: _, [], _, _, h, _ => h.elim
  | x :: a, y :: b, i, j, h, hl => by
    rcases h with h | ⟨rfl, h⟩
    · exact .inl h
    · exact .inr ⟨rfl, zd6 i j h (by simpa using hl)⟩
theorem zbw : ∀ (a : List Int) {i j : Int}, i < j → zax (a ++ [i]) (a ++ [j])
  | [], _, _, h => .inl h
  | _ :: a, _, _, h => .inr ⟨rfl, zbw a h⟩
theorem z6z {a b c : List Int} (h : llt a b) (k : llt b c) : llt a c := by
  rcases h with h | ⟨h, h'⟩
  · rcases k with k | ⟨k, _⟩
    · exact .inl (by omega)
    · exact .inl (by omega)
  · rcases k with k | ⟨k, k'⟩
    · exact .inl (by omega)
    · exact .inr ⟨by omega, zb0 h' k'⟩
theorem zg3 {a b : List Int} (i j : Int) (h : llt a b) : llt (a ++ [i]) (b ++ [j]) := by
  rcases h with h | ⟨h, h'⟩
  · exact .inl (by simp; omega)
  · exact .inr ⟨by simp [h], zd6 i j h' h⟩
theorem zm6 (a : List Int) {i j : Int} (h : i < j) : llt (a ++ [i]) (a ++ [j]) := .inr ⟨by simp, zbw a h⟩
theorem zlq {a b c : List Int} (h : lle a b) (k : lle b c) : lle a c := by
  rcases h with rfl | h
  · exact k
  · rcases k with rfl | k
    · exact .inr h
    · exact .inr (z6z h k)
theorem zm7 {a b : List Int} (i : Int) (h : lle a b) : lle (a ++ [i]) (b ++ [i]) := by
  rcases h with rfl | h
  · exact .inl rfl
  · exact .inr (zg3 i i h)
/-! ### Entries -/
structure BE where
  st : Nat
  par : Int
  inp : Int
  wd : List Int
  deriving DecidableEq, Inhabited
def ed (m : Mach) (s i : Nat) : Int := ((m.rows.getD s default).getD i default).to
def occ (All : List BE) (t : Nat) : Bool := All.any fun e => decide (e.st = t)
theorem za2 {All : List BE} {t : Nat} : occ All t = true ↔ ∃ j, j < All.length ∧ (All.getD j default).st = t := by
  unfold occ
  rw [List.any_eq_true]
  constructor
  · rintro ⟨e, he, ht⟩
    obtain ⟨j, hj, rfl⟩ := List.mem_iff_getElem.1 he
    exact ⟨j, hj, by simpa [List.getD_eq_getElem?_getD, hj] using ht⟩
  · rintro ⟨j, hj, ht⟩
    exact ⟨_, l5 hj, by simpa using ht⟩
def push (m : Mach) (x : BE) (All : List BE) (i : Nat) : List BE :=
  if ed m x.st i = -1 then All else if occ All (ed m x.st i).toNat = true then All else All ++ [⟨(ed m x.st i).toNat, x.st, i, x.wd ++ [(i : Int)]⟩]
def za7 (m : Mach) (x : BE) (All : List BE) : Nat → List BE
  | 0 => All
  | k + 1 => push m x (za7 m x All k) k
def bfs (m : Mach) : Nat → Nat → List BE → List BE
  | 0, _, All => All
  | g + 1, p, All => if p < All.length then bfs m g (p + 1) (za7 m (All.getD p default) All m.inputs.toNat) else All
theorem zho {m : Mach} (hm : MOk m) {s i : Nat} (hs : s < m.rows.length) (hi : i < m.inputs.toNat) : ed m s i = -1 ∨ (0 ≤ ed m s i ∧ ed m s i < m.rows.length) := by
  have := zgi m hm (s : Int) (i : Int) (.inr ⟨by omega, by omega⟩) ⟨by omega, by have := hm.i1; omega⟩
  have h := this.1
  unfold aa at h
  rw [if_neg (by omega)] at h
  exact h
theorem zmw (m : Mach) (x : BE) (All : List BE) (i : Nat) : All <+: push m x All i := by
  unfold push
  split
  · exact List.prefix_refl _
  · split
    · exact List.prefix_refl _
    · exact List.prefix_append _ _
theorem z6k (m : Mach) (x : BE) (All : List BE) : ∀ k, All <+: za7 m x All k
  | 0 => List.prefix_refl _
  | k + 1 => (z6k m x All k).trans (zmw m x _ k)
theorem zny {X Y : List BE} (h : X <+: Y) {j : Nat} (hj : j < X.length) : Y.getD j default = X.getD j default := by
  obtain ⟨t, rfl⟩ := h
  simp [List.getD_eq_getElem?_getD, List.getElem?_append_left hj]
structure Inv (m : Mach) (s0 p k : Nat) (All : List BE) : Prop where
  pos : 0 < All.length
  root : All.getD 0 default = ⟨s0, -1, -1, []⟩
  rng : ∀ j, j < All.length → (All.getD j default).st < m.rows.length
  dis : ∀ i j, i < All.length → j < All.length → (All.getD i default).st = (All.getD j default).st → i = j
  aft : ∀ j, j < All.length → xe m s0 (All.getD j default).wd = ((All.getD j default).st : Int)
  par : ∀ j, 0 < j → j < All.length → ∃ q i, q < j ∧ i < m.inputs.toNat ∧ (All.getD j default).par = ((All.getD q default).st : Int) ∧ (All.getD j default).inp = (i : Int) ∧ (All.getD j default).wd = (All.getD q default).wd ++ [(i : Int)] ∧ ed m (All.getD q default).st i = ((All.getD j default).st : Int)
  inc : ∀ i j, i < j → j < All.length → llt (All.getD i default).wd (All.getD j default).wd
  bnd : p < All.length → ∀ j, j < All.length → llt (All.getD j default).wd ((All.getD p default).wd ++ [(k : Int)])
  cls : ∀ q i, q < All.length → i < m.inputs.toNat → (q < p ∨ (q = p ∧ i < k)) → ed m (All.getD q default).st i ≠ -1 → ∃ j, j < All.length ∧ ((All.getD j default).st : Int) = ed m (All.getD q default).st i ∧ lle (All.getD j default).wd ((All.getD q default).wd ++ [(i : Int)])
theorem zf2 {X : List BE} {e : BE} {j : Nat} (h : j < X.length) : (X ++ [e]).getD j default = X.getD j default := by
  simp [List.getD_eq_getElem?_getD, List.getElem?_append_left h]
theorem zdi {X : List BE} {e : BE} : (X ++ [e]).getD X.length default = e := by
  simp [List.getD_eq_getElem?_getD]
theorem zn7 {m : Mach} (hm : MOk m) {s0 p k : Nat} {All : List BE} (h : Inv m s0 p k All) (hp : p < All.length) (hk : k < m.inputs.toNat) : Inv m s0 p (k + 1) (push m (All.getD p default) All k) := by
  have hb := h.bnd hp
  have hlast : llt ((All.getD p default).wd ++ [(k : Int)]) ((All.getD p default).wd ++ [((k + 1 : Nat) : Int)]) := zm6 _ (by omega)
  have hsame : (∀ q i, q = p → i = k → ed m (All.getD q default).st i ≠ -1 → ∃ j, j < All.length ∧ ((All.getD j default).st : Int) = ed m (All.getD q default).st i ∧ lle (All.getD j default).wd ((All.getD q default).wd ++ [(i : Int)])) → Inv m s0 p (k + 1) All := fun hc =>
    { h with
      bnd := fun _ j hj => z6z (hb j hj) hlast
      cls := fun q i hq hi hor hne => by
        rcases hor with ho | ⟨rfl, ho⟩
        · exact h.cls q i hq hi (.inl ho) hne
        · by_cases e : i = k
          · exact hc q i rfl e hne
          · exact h.cls q i hq hi (.inr ⟨rfl, by omega⟩) hne }
  unfold push
  by_cases h1 : ed m (All.getD p default).st k = -1
  · rw [if_pos h1]
    exact hsame fun q i hq hi hne => by subst hq; subst hi; exact absurd h1 hne
  · rw [if_neg h1]
    have hok := zho hm (h.rng p hp) hk
    obtain ⟨h2, h3⟩ := hok.resolve_left h1
    by_cases h4 : occ All (ed m (All.getD p default).st k).toNat = true
    · rw [if_pos h4]
      refine hsame fun q i hq hi hne => ?_
      subst hq; subst hi
      obtain ⟨j, hj, hst⟩ := za2.1 h4
      exact ⟨j, hj, by rw [hst]; omega, .inr (hb j hj)⟩
    · rw [if_neg h4]
      have hnew : ∀ j, j < All.length → (All.getD j default).st ≠ (ed m (All.getD p default).st k).toNat := fun j hj e => h4 (za2.2 ⟨j, hj, e⟩)
      have hlen : (All ++ [(⟨(ed m (All.getD p default).st k).toNat, ((All.getD p default).st : Int), (k : Int), (All.getD p default).wd ++ [(k : Int)]⟩ : BE)]).length = All.length + 1 := by simp
      generalize hE : (⟨(ed m (All.getD p default).st k).toNat, ((All.getD p default).st : Int), (k : Int), (All.getD p default).wd ++ [(k : Int)]⟩ : BE) = e at hlen ⊢
      have e1 : e.st = (ed m (All.getD p default).st k).toNat := by rw [← hE]
      have e2 : e.par = ((All.getD p default).st : Int) := by rw [← hE]
      have e3 : e.inp = (k : Int) := by rw [← hE]
      have e4 : e.wd = (All.getD p default).wd ++ [(k : Int)] := by rw [← hE]
      have cs : ∀ j, j < (All ++ [e]).length → j < All.length ∨ j = All.length := fun j hj => by rw [hlen] at hj; omega
      have lt := fun {j : Nat} (hj : j < All.length) => zf2 (e := e) hj
      have le := zdi (X := All) (e := e)
      refine ⟨by rw [hlen]; omega, by rw [lt h.pos]; exact h.root, fun j hj => ?_, fun i j hi hj hij => ?_, fun j hj => ?_, fun j hj0 hj => ?_, fun i j hij hj => ?_, fun _ j hj => ?_, fun q i hq hi hor hne => ?_⟩
      · rcases cs j hj with hj | rfl
        · rw [lt hj]; exact h.rng j hj
        · rw [le, e1]; omega
      · rcases cs i hi with hi | rfl <;> rcases cs j hj with hj | rfl
        · rw [lt hi, lt hj] at hij; exact h.dis i j hi hj hij
        · rw [lt hi, le, e1] at hij; exact absurd hij (hnew i hi)
        · rw [le, lt hj, e1] at hij; exact absurd hij.symm (hnew j hj)
        · rfl
      · rcases cs j hj with hj | rfl
        · rw [lt hj]; exact h.aft j hj
        · rw [le, e4, e1, z3w, h.aft p hp]
          show (aa m ((All.getD p default).st : Int) (k : Int)).to = _
          unfold aa
          rw [if_neg (by omega)]
          show ed m (All.getD p default).st k = _
          omega
      · rcases cs j hj with hj | rfl
        · obtain ⟨q, i, h5, h6⟩ := h.par j hj0 hj
          exact ⟨q, i, h5, by rw [lt hj, lt (by omega)]; exact h6⟩
        · refine ⟨p, k, hp, hk, ?_⟩
          rw [le, lt hp, e1, e2, e3, e4]
          exact ⟨rfl, rfl, rfl, by omega⟩
      · rcases cs j hj with hj | rfl
        · rw [lt hj, lt (by omega)]; exact h.inc i j hij hj
        · rw [le, lt hij, e4]; exact hb i hij
      · rw [lt hp]
        rcases cs j hj with hj | rfl
        · rw [lt hj]; exact z6z (hb j hj) hlast
        · rw [le, e4]; exact hlast
      · have hq' : q < All.length := by rcases hor with ho | ⟨rfl, _⟩ <;> omega
        rw [lt hq'] at hne ⊢
        by_cases hc : q = p ∧ i = k
        · obtain ⟨rfl, rfl⟩ := hc
          exact ⟨All.length, by rw [hlen]; omega, by rw [le, e1]; omega, by rw [le, e4]; exact .inl rfl⟩
        · obtain ⟨j, hj, h5, h6⟩ := h.cls q i hq' hi (by rcases hor with ho | ⟨rfl, ho⟩; exact .inl ho; exact .inr ⟨rfl, by omega⟩) hne
          exact ⟨j, by rw [hlen]; omega, by rw [lt hj]; exact h5, by rw [lt hj]; exact h6⟩
theorem zjk {m : Mach} (hm : MOk m) {s0 p : Nat} {All : List BE} (h : Inv m s0 p 0 All) (hp : p < All.length) : ∀ k, k ≤ m.inputs.toNat → Inv m s0 p k (za7 m (All.getD p default) All k)
  | 0, _ => h
  | k + 1, hk => by
    have ih := zjk hm h hp k (by omega)
    have hpre := z6k m (All.getD p default) All k
    have e : (za7 m (All.getD p default) All k).getD p default = All.getD p default := zny hpre hp
    have := zn7 hm ih (by have := hpre.length_le; omega) (by omega)
    rw [e] at this
    exact this
theorem zn5 {m : Mach} {s0 p : Nat} {All : List BE} (h : Inv m s0 p m.inputs.toNat All) (hp : p < All.length) : Inv m s0 (p + 1) 0 All :=
  { h with
    bnd := fun hp' j hj => z6z (h.bnd hp j hj) (zg3 _ _ (h.inc p (p + 1) (by omega) hp'))
    cls := fun q i hq hi hor hne => h.cls q i hq hi (by rcases hor with ho | ⟨_, ho⟩; exact (Nat.lt_or_ge q p).imp id fun _ => ⟨by omega, hi⟩; omega) hne }
theorem zjo {m : Mach} {s0 p k : Nat} {All : List BE} (h : Inv m s0 p k All) : All.length ≤ m.rows.length := by
  have hnd : (All.map (·.st)).Nodup := by
    rw [List.nodup_iff_pairwise_ne, List.pairwise_iff_getElem]
    intro i j hi hj hij e
    rw [List.length_map] at hi hj
    rw [List.getElem_map, List.getElem_map] at e
    have := h.dis i j hi hj (by simpa [List.getD_eq_getElem?_getD, hj, hi] using e)
    omega
  have hsub : (All.map (·.st)) ⊆ List.range m.rows.length := by
    intro x hx
    obtain ⟨e, he, rfl⟩ := List.mem_map.1 hx
    obtain ⟨j, hj, rfl⟩ := List.mem_iff_getElem.1 he
    have := h.rng j hj
    rw [List.mem_range]
    simpa [List.getD_eq_getElem?_getD, hj] using this
  have := List.Nodup.length_le_of_subset hnd hsub
  simpa using this
theorem zjh {m : Mach} (hm : MOk m) {s0 : Nat} : ∀ (g p : Nat) (All : List BE), p + g = m.rows.length → p ≤ All.length → Inv m s0 p 0 All → ∃ q, (bfs m g p All).length ≤ q ∧ Inv m s0 q 0 (bfs m g p All)
  | 0, p, All, hg, hp, h => ⟨p, by have := zjo h; show All.length ≤ p; omega, h⟩
  | g + 1, p, All, hg, hp, h => by
    unfold bfs
    by_cases hlt : p < All.length
    · rw [if_pos hlt]
      have h1 := zjk hm h hlt _ (Nat.le_refl _)
      have hpre := (z6k m (All.getD p default) All m.inputs.toNat).length_le
      exact zjh hm g (p + 1) _ (by omega) (by omega) (zn5 h1 (by omega))
    · rw [if_neg hlt]
      exact ⟨p, by omega, h⟩
def rch (m : Mach) (s0 : Nat) : List BE := bfs m m.rows.length 0 [⟨s0, -1, -1, []⟩]
structure Rch (m : Mach) (s0 : Nat) (P : List BE) : Prop where
  pos : 0 < P.length
  le : P.length ≤ m.rows.length
  root : P.getD 0 default = ⟨s0, -1, -1, []⟩
  rng : ∀ j, j < P.length → (P.getD j default).st < m.rows.length
  dis : ∀ i j, i < P.length → j < P.length → (P.getD i default).st = (P.getD j default).st → i = j
  aft : ∀ j, j < P.length → xe m s0 (P.getD j default).wd = ((P.getD j default).st : Int)
  par : ∀ j, 0 < j → j < P.length → ∃ q i, q < j ∧ i < m.inputs.toNat ∧ (P.getD j default).par = ((P.getD q default).st : Int) ∧ (P.getD j default).inp = (i : Int) ∧ (P.getD j default).wd = (P.getD q default).wd ++ [(i : Int)] ∧ ed m (P.getD q default).st i = ((P.getD j default).st : Int)
  inc : ∀ i j, i < j → j < P.length → llt (P.getD i default).wd (P.getD j default).wd
  cls : ∀ q i, q < P.length → i < m.inputs.toNat → ed m (P.getD q default).st i ≠ -1 → ∃ j, j < P.length ∧ ((P.getD j default).st : Int) = ed m (P.getD q default).st i ∧ lle (P.getD j default).wd ((P.getD q default).wd ++ [(i : Int)])
theorem zot {m : Mach} {s0 : Nat} (hs : s0 < m.rows.length) : Inv m s0 0 0 [⟨s0, -1, -1, []⟩] := by
  have c : ∀ j, j < [(⟨s0, -1, -1, []⟩ : BE)].length → j = 0 := fun j hj => by simpa using hj
  refine ⟨by simp, rfl, fun j hj => ?_, fun i j hi hj _ => ?_, fun j hj => ?_, fun j h0 hj => ?_, fun i j hij hj => ?_, fun _ j hj => ?_, fun q i hq hi hor hne => ?_⟩
  · rw [c j hj]; exact hs
  · rw [c i hi, c j hj]
  · rw [c j hj]; rfl
  · have := c j hj; omega
  · have := c j hj; omega
  · rw [c j hj]; exact .inl (by simp)
  · have := c q hq; omega
theorem zog {m : Mach} (hm : MOk m) {s0 : Nat} (hs : s0 < m.rows.length) : Rch m s0 (rch m s0) := by
  obtain ⟨q, hq, h⟩ := zjh hm m.rows.length 0 _ (by omega) (by simp) (zot hs)
  exact ⟨h.pos, zjo h, h.root, h.rng, h.dis, h.aft, h.par, h.inc, fun q' i hq' hi hne => h.cls q' i hq' hi (.inl (Nat.lt_of_lt_of_le hq' hq)) hne⟩
section rch
variable {m : Mach} {s0 : Nat} {P : List BE}
theorem zn4 {n c : Int} {u : List Int} (h : WOk n (u ++ [c])) : WOk n u ∧ 0 ≤ c ∧ c < n := by
  refine ⟨fun k hk => ?_, ?_⟩
  · have := h k (by simp; omega)
    rwa [List.getD_eq_getElem?_getD, List.getElem?_append_left hk, ← List.getD_eq_getElem?_getD] at this
  · have := h u.length (by simp)
    rwa [List.getD_eq_getElem?_getD, List.getElem?_concat_length] at this
theorem z97 (m : Mach) : ∀ (w : List Int), xe m (-1) w = -1
  | [] => rfl
  | c :: w => by
    show xe m (aa m (-1) c).to w = -1
    rw [show aa m (-1) c = ⟨-1, -1⟩ from rfl]
    exact z97 m w
theorem Rch.least (hm : MOk m) (h : Rch m s0 P) : ∀ (n : Nat) (w : List Int), w.length = n → WOk m.inputs w → xe m s0 w ≠ -1 → ∃ j, j < P.length ∧ ((P.getD j default).st : Int) = xe m s0 w ∧ lle (P.getD j default).wd w
  | 0, w, hl, hw, hne => by
    have : w = [] := List.length_eq_zero_iff.1 hl
    subst this
    exact ⟨0, h.pos, by rw [h.root]; rfl, by rw [h.root]; exact .inl rfl⟩
  | n + 1, w, hl, hw, hne => by
    obtain ⟨u, c, rfl⟩ : ∃ u c, w = u ++ [c] := ⟨w.dropLast, w.getLast (by intro e; rw [e] at hl; simp at hl), (List.dropLast_concat_getLast _).symm⟩
    obtain ⟨hu, hc0, hc1⟩ := zn4 hw
    rw [z3w] at hne ⊢
    have hune : xe m s0 u ≠ -1 := fun e => by rw [e, z97] at hne; exact hne rfl
    obtain ⟨q, hq, hst, hle⟩ := Rch.least hm h n u (by simpa using hl) hu hune
    rw [← hst] at hne ⊢
    have hstep : xe m ((P.getD q default).st : Int) [c] = ed m (P.getD q default).st c.toNat := by
      show (aa m ((P.getD q default).st : Int) c).to = _
      unfold aa
      rw [if_neg (by omega)]
      rfl
    rw [hstep] at hne ⊢
    obtain ⟨j, hj, h1, h2⟩ := h.cls q c.toNat hq (by omega) hne
    refine ⟨j, hj, h1, zlq h2 ?_⟩
    rw [show ((c.toNat : Nat) : Int) = c by omega]
    exact zm7 c hle
theorem Rch.min (hm : MOk m) (h : Rch m s0 P) {j : Nat} (hj : j < P.length) {w : List Int} (hw : WOk m.inputs w) (ha : xe m s0 w = ((P.getD j default).st : Int)) : lle (P.getD j default).wd w := by
  obtain ⟨i, hi, h1, h2⟩ := h.least hm _ w rfl hw (by rw [ha]; omega)
  rw [ha] at h1
  have := h.dis i j hi hj (by omega)
  subst this
  exact h2
end rch
end GV
end Go.Proofs.Ytplgbkaollfmkaa
