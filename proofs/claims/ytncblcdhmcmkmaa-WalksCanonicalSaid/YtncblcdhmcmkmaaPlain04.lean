/- Machines as data: what a valid one is, and what the functions of layer 4 compute. No program in sight. -/
import Derived.Test.YtncblcdhmcmkmaaShPlain
namespace Go.Proofs.Ytncblcdhmcmkmaa
namespace GV
set_option linter.unusedVariables false

/-- An edge that a machine may have. -/
def eOk (m : Mach) (e : Edge) : Prop := (e.to = -1 ∧ e.out = -1) ∨ (0 ≤ e.to ∧ e.to < m.rows.length ∧ 0 ≤ e.out ∧ e.out < m.outputs)
structure MOk (m : Mach) : Prop where
  i1 : 1 ≤ m.inputs
  i2 : m.inputs ≤ 16
  o1 : 1 ≤ m.outputs
  o2 : m.outputs ≤ 16
  r1 : 1 ≤ m.rows.length
  r2 : m.rows.length ≤ 64
  row : ∀ s, s < m.rows.length → ((m.rows.getD s default).length : Int) = m.inputs
  edge : ∀ s i, s < m.rows.length → i < (m.rows.getD s default).length → eOk m ((m.rows.getD s default).getD i default)

/-- How many of the first k edges are defined. -/
def cntE (l : List Edge) (k : Nat) : Nat := (l.take k).countP fun e => decide (0 ≤ e.to)
def cntR (m : Mach) (k : Nat) : Nat := ((m.rows.take k).map fun r => r.countP fun e => decide (0 ≤ e.to)).sum
def defd (m : Mach) : Nat := cntR m m.rows.length
theorem cntE_zero (l : List Edge) : cntE l 0 = 0 := by simp [cntE]
theorem cntE_succ (l : List Edge) (k : Nat) (h : k < l.length) : cntE l (k + 1) = cntE l k + if 0 ≤ (l.getD k default).to then 1 else 0 := by
  unfold cntE
  rw [List.take_succ_eq_append_getElem h, List.countP_append]
  simp [List.countP_cons, List.getD_eq_getElem?_getD, h]
theorem cntE_le (l : List Edge) (k : Nat) : cntE l k ≤ k := by
  unfold cntE; exact Nat.le_trans List.countP_le_length (List.length_take_le _ _)
theorem cntR_succ (m : Mach) (k : Nat) (h : k < m.rows.length) : cntR m (k + 1) = cntR m k + cntE (m.rows.getD k default) (m.rows.getD k default).length := by
  unfold cntR cntE
  rw [List.take_succ_eq_append_getElem h, List.map_append, List.sum_append, List.take_length]
  congr 1
  simp [List.getD_eq_getElem?_getD, h]
theorem cntR_le (m : Mach) (hm : MOk m) : ∀ k, k ≤ m.rows.length → cntR m k ≤ 16 * k
  | 0, _ => by simp [cntR]
  | k + 1, h => by
    rw [cntR_succ m k h]
    have := cntR_le m hm k (by omega)
    have h2 := cntE_le (m.rows.getD k default) (m.rows.getD k default).length
    have h3 := hm.row k h
    have h4 := hm.i2
    omega

/-- The edge of a state, which may be none. -/
def nextE (m : Mach) (s i : Int) : Edge := if s < 0 then ⟨-1, -1⟩ else (m.rows.getD s.toNat default).getD i.toNat default
def runL (m : Mach) : Int → List Int → List Int
  | _, [] => []
  | s, i :: w => (nextE m s i).out :: runL m (nextE m s i).to w
def aftL (m : Mach) : Int → List Int → Int
  | s, [] => s
  | s, i :: w => aftL m (nextE m s i).to w
/-- A word over so many inputs. -/
def WOk (n : Int) (w : List Int) : Prop := ∀ k, k < w.length → 0 ≤ w.getD k default ∧ w.getD k default < n
def SOk (m : Mach) (s : Int) : Prop := s = -1 ∨ (0 ≤ s ∧ s < m.rows.length)
theorem aftL_append (m : Mach) : ∀ (s : Int) (u v : List Int), aftL m s (u ++ v) = aftL m (aftL m s u) v
  | s, [], v => rfl
  | s, i :: u, v => aftL_append m _ u v
theorem runL_append (m : Mach) : ∀ (s : Int) (u v : List Int), runL m s (u ++ v) = runL m s u ++ runL m (aftL m s u) v
  | s, [], v => rfl
  | s, i :: u, v => by
    show _ :: runL m _ (u ++ v) = _ :: (runL m _ u ++ _)
    rw [runL_append m _ u v]; rfl
theorem runL_length (m : Mach) : ∀ (s : Int) (w : List Int), (runL m s w).length = w.length
  | s, [] => rfl
  | s, i :: w => by simp [runL, runL_length m _ w]
theorem take_snoc (w : List Int) (k : Nat) (h : k < w.length) : w.take (k + 1) = w.take k ++ [w.getD k default] := by
  rw [List.take_succ_eq_append_getElem h]; simp [List.getD_eq_getElem?_getD, h]
theorem runL_take (m : Mach) (s : Int) (w : List Int) (k : Nat) (h : k < w.length) : runL m s (w.take (k + 1)) = runL m s (w.take k) ++ [(nextE m (aftL m s (w.take k)) (w.getD k default)).out] := by
  rw [take_snoc w k h, runL_append]; rfl
theorem aftL_take (m : Mach) (s : Int) (w : List Int) (k : Nat) (h : k < w.length) : aftL m s (w.take (k + 1)) = (nextE m (aftL m s (w.take k)) (w.getD k default)).to := by
  rw [take_snoc w k h, aftL_append]; rfl
theorem nextE_ok (m : Mach) (hm : MOk m) (s i : Int) (hs : SOk m s) (hi : 0 ≤ i ∧ i < m.inputs) : SOk m (nextE m s i).to ∧ -1 ≤ (nextE m s i).out ∧ (nextE m s i).out ≤ 16 := by
  unfold nextE
  split
  · exact ⟨.inl rfl, by simp, by simp⟩
  · have hs' : 0 ≤ s ∧ s < m.rows.length := by rcases hs with h | h <;> omega
    have h1 := hm.row s.toNat (by omega)
    have h2 := hm.o2
    rcases hm.edge s.toNat i.toNat (by omega) (by omega) with h | h
    · exact ⟨.inl h.1, by omega, by omega⟩
    · exact ⟨.inr ⟨h.1, h.2.1⟩, by omega, by omega⟩
theorem aftL_ok (m : Mach) (hm : MOk m) : ∀ (s : Int) (w : List Int), SOk m s → WOk m.inputs w → SOk m (aftL m s w)
  | s, [], hs, _ => hs
  | s, i :: w, hs, hw => aftL_ok m hm _ w (nextE_ok m hm s i hs (by simpa using hw 0 (by simp))).1 (fun k hk => by simpa using hw (k + 1) (by simpa using hk))
theorem wok_take {n : Int} {w : List Int} (h : WOk n w) (k : Nat) : WOk n (w.take k) := fun j hj => by
  rw [List.length_take] at hj
  have := h j (by omega)
  rwa [show (w.take k).getD j default = w.getD j default from by simp only [List.getD_eq_getElem?_getD, List.getElem?_take]; rw [if_pos (by omega)]]
theorem set_next (X : List Int) (n k : Nat) (z : Int) (hl : X.length = k) (hk : k < n) : (X ++ List.replicate (n - k) (0 : Int)).set k z = (X ++ [z]) ++ List.replicate (n - (k + 1)) (0 : Int) := by
  subst hl
  rw [List.set_append_right _ _ (Nat.le_refl _), Nat.sub_self, List.append_assoc]
  congr 1
  rw [show n - X.length = (n - (X.length + 1)) + 1 from by omega, List.replicate_succ]
  rfl

def fitsB (m : Mach) (x : Edge) : Bool := decide (x.to = -1 ∧ x.out = -1) || (((decide (0 ≤ x.to) && decide (x.to < m.rows.length)) && decide (0 ≤ x.out)) && decide (x.out < m.outputs))
theorem fitsB_iff (m : Mach) (x : Edge) : fitsB m x = true ↔ eOk m x := by
  simp [fitsB, eOk]; omega
/-- The first index at which a list's element is so, from k on. -/
theorem take_any {α : Type} [Inhabited α] (p : α → Bool) (X : List α) (k : Nat) (h : k < X.length) : (X.take (k + 1)).any p = ((X.take k).any p || p (X.getD k default)) := by
  rw [List.take_succ_eq_append_getElem h, List.any_append]
  simp [List.getD_eq_getElem?_getD, h]
def idxF {α : Type} (p : α → Bool) (X : List α) : Int := match X.findIdx? p with | some i => i | none => -1
theorem idxF_ge {α : Type} (p : α → Bool) (X : List α) : decide (0 ≤ idxF p X) = X.any p := by
  unfold idxF
  cases h : X.findIdx? p with
  | none =>
    have := List.findIdx?_eq_none_iff.1 h
    simp only [Bool.eq_false_iff] at *
    rw [show decide ((0 : Int) ≤ -1) = false from rfl]
    symm
    rw [List.any_eq_false]
    intro x hx
    simp [this x hx]
  | some i =>
    obtain ⟨hi, hp, _⟩ := List.findIdx?_eq_some_iff_getElem.1 h
    rw [show decide ((0 : Int) ≤ (i : Int)) = true from by simp]
    symm
    rw [List.any_eq_true]
    exact ⟨_, List.getElem_mem hi, hp⟩
theorem idxF_found {α : Type} [Inhabited α] (p : α → Bool) (X : List α) (k : Nat) (h : k < X.length) (hb : (X.take k).any p = false) (hp : p (X.getD k default) = true) : idxF p X = k := by
  have : X.findIdx? p = some k := by
    rw [List.findIdx?_eq_some_iff_getElem]
    refine ⟨h, by simpa [List.getD_eq_getElem?_getD, h] using hp, fun j hj => ?_⟩
    rw [List.any_eq_false] at hb
    have := hb X[j] (by rw [List.mem_take_iff_getElem]; exact ⟨j, by omega, rfl⟩)
    simpa using this
  simp [idxF, this]
theorem idxF_none {α : Type} (p : α → Bool) (X : List α) (hb : X.any p = false) : idxF p X = -1 := by
  have : X.findIdx? p = none := by
    rw [List.findIdx?_eq_none_iff]
    rw [List.any_eq_false] at hb
    intro x hx
    simpa using hb x hx
  simp [idxF, this]
/-- What Check answers of a machine. -/
def rowBad (m : Mach) (r : List Edge) : Bool := decide ((r.length : Int) ≠ m.inputs) || r.any fun x => !fitsB m x
def checkM (m : Mach) : Int := if (16 < m.inputs ∨ 16 < m.outputs) ∨ 64 < m.rows.length then 3 else if (m.inputs < 1 ∨ m.outputs < 1) ∨ m.rows.length < 1 then 1 else if m.rows.any (rowBad m) = true then 1 else 0
structure Small (m : Mach) : Prop where
  r : m.rows.length ≤ 100
  c : ∀ k, k < m.rows.length → (m.rows.getD k default).length ≤ 100
theorem checkM_3 {m : Mach} (h : (16 < m.inputs ∨ 16 < m.outputs) ∨ 64 < m.rows.length) : checkM m = 3 := by unfold checkM; rw [if_pos h]
theorem checkM_1 {m : Mach} (h : ¬ ((16 < m.inputs ∨ 16 < m.outputs) ∨ 64 < m.rows.length)) (h1 : (m.inputs < 1 ∨ m.outputs < 1) ∨ m.rows.length < 1) : checkM m = 1 := by unfold checkM; rw [if_neg h, if_pos h1]
theorem checkM_0 {m : Mach} (h : ¬ ((16 < m.inputs ∨ 16 < m.outputs) ∨ 64 < m.rows.length)) (h1 : ¬ ((m.inputs < 1 ∨ m.outputs < 1) ∨ m.rows.length < 1)) (hr : m.rows.any (rowBad m) = false) : checkM m = 0 := by
  unfold checkM; rw [if_neg h, if_neg h1, if_neg (by rw [hr]; decide)]
theorem any_getD {α : Type} [Inhabited α] (p : α → Bool) (X : List α) : X.any p = false ↔ ∀ k, k < X.length → p (X.getD k default) = false := by
  rw [List.any_eq_false]
  refine ⟨fun h k hk => by simpa using h _ (getD_mem hk), fun h x hx => ?_⟩
  obtain ⟨k, hk, rfl⟩ := List.getElem_of_mem hx
  have := h k hk
  simp only [List.getD_eq_getElem?_getD, List.getElem?_eq_getElem hk, Option.getD_some] at this
  simp [this]
theorem rowBad_false (m : Mach) (r : List Edge) : rowBad m r = false ↔ (r.length : Int) = m.inputs ∧ ∀ i, i < r.length → eOk m (r.getD i default) := by
  unfold rowBad
  rw [Bool.or_eq_false_iff, any_getD]
  refine and_congr (by simp) (forall_congr' fun i => forall_congr' fun hi => ?_)
  rw [← fitsB_iff]; simp
theorem checkM_iff (m : Mach) : checkM m = 0 ↔ MOk m := by
  unfold checkM
  by_cases h : (16 < m.inputs ∨ 16 < m.outputs) ∨ 64 < m.rows.length
  · rw [if_pos h]; exact ⟨fun h => absurd h (by decide), fun hm => by have := hm.i2; have := hm.o2; have := hm.r2; omega⟩
  rw [if_neg h]
  by_cases h1 : (m.inputs < 1 ∨ m.outputs < 1) ∨ m.rows.length < 1
  · rw [if_pos h1]; exact ⟨fun h => absurd h (by decide), fun hm => by have := hm.i1; have := hm.o1; have := hm.r1; omega⟩
  rw [if_neg h1]
  cases hr : m.rows.any (rowBad m)
  · rw [if_neg (by decide)]
    have := (any_getD _ _).1 hr
    exact ⟨fun _ => ⟨by omega, by omega, by omega, by omega, by omega, by omega, fun s hs => ((rowBad_false m _).1 (this s hs)).1, fun s i hs hi => ((rowBad_false m _).1 (this s hs)).2 i hi⟩, fun _ => rfl⟩
  · rw [if_pos rfl]
    refine ⟨fun h => absurd h (by decide), fun hm => ?_⟩
    have : m.rows.any (rowBad m) = false := (any_getD _ _).2 fun k hk => (rowBad_false m _).2 ⟨hm.row k hk, fun i hi => hm.edge k i hk hi⟩
    rw [hr] at this; cases this
theorem MOk.small {m : Mach} (hm : MOk m) : Small m := ⟨by have := hm.r2; omega, fun k hk => by have := hm.row k hk; have := hm.i2; omega⟩
def stateM (m : Mach) (s : Int) : Int := if checkM m ≠ 0 then checkM m else if s < 0 ∨ (m.rows.length : Int) ≤ s then 1 else 0
theorem stateM_0 {m : Mach} {s : Int} (h : stateM m s = 0) : MOk m ∧ 0 ≤ s ∧ s < m.rows.length := by
  unfold stateM at h
  by_cases h1 : checkM m ≠ 0
  · rw [if_pos h1] at h; exact absurd h h1
  rw [if_neg h1] at h
  by_cases h2 : s < 0 ∨ (m.rows.length : Int) ≤ s
  · rw [if_pos h2] at h; cases h
  exact ⟨(checkM_iff m).1 (by omega), by omega, by omega⟩
/-- The order of lists. -/
def lexC : List Int → List Int → Int
  | x :: a, y :: b => if x < y then -1 else if y < x then 1 else lexC a b
  | _, _ => 0
def cmpL (a b : List Int) : Int := if a.length < b.length then -1 else if b.length < a.length then 1 else lexC a b
theorem drop_cons {α : Type} [Inhabited α] (X : List α) (k : Nat) (h : k < X.length) : X.drop k = X.getD k default :: X.drop (k + 1) := by
  rw [List.drop_eq_getElem_cons h]; simp [List.getD_eq_getElem?_getD, h]
theorem lexC_step {a b : List Int} {k : Nat} (ha : k < a.length) (hb : k < b.length) : lexC (a.drop k) (b.drop k) = if a.getD k default < b.getD k default then -1 else if b.getD k default < a.getD k default then 1 else lexC (a.drop (k + 1)) (b.drop (k + 1)) := by
  rw [drop_cons a k ha, drop_cons b k hb]; rfl
theorem lexC_eq : ∀ (a b : List Int), a.length = b.length → (lexC a b = 0 ↔ a = b)
  | [], [], _ => by simp [lexC]
  | x :: a, y :: b, h => by
    have ih := lexC_eq a b (by simpa using h)
    unfold lexC
    by_cases h1 : x < y
    · rw [if_pos h1]; simp; omega
    by_cases h2 : y < x
    · rw [if_neg h1, if_pos h2]; simp; omega
    rw [if_neg h1, if_neg h2, ih, show x = y from by omega]; simp
theorem cmpL_eq (a b : List Int) : cmpL a b = 0 ↔ a = b := by
  unfold cmpL
  by_cases h1 : a.length < b.length
  · rw [if_pos h1]; exact ⟨fun h => absurd h (by decide), fun h => by subst h; omega⟩
  by_cases h2 : b.length < a.length
  · rw [if_neg h1, if_pos h2]; exact ⟨fun h => absurd h (by decide), fun h => by subst h; omega⟩
  rw [if_neg h1, if_neg h2]
  exact lexC_eq a b (by omega)
theorem ext_getD {α : Type} [Inhabited α] {X Y : List α} (hl : X.length = Y.length) (h : ∀ k, k < X.length → X.getD k default = Y.getD k default) : X = Y := by
  refine List.ext_getElem hl fun k h1 h2 => ?_
  have := h k h1
  simpa only [List.getD_eq_getElem?_getD, List.getElem?_eq_getElem h1, List.getElem?_eq_getElem h2, Option.getD_some] using this
theorem mach_eq {a b : Mach} : a = b ↔ a.inputs = b.inputs ∧ a.outputs = b.outputs ∧ a.rows = b.rows := by
  cases a; cases b; simp
theorem MOk.mul {m : Mach} (hm : MOk m) : m.rows.length * m.inputs.toNat ≤ 1024 ∧ (m.rows.length : Int) * m.inputs = ((m.rows.length * m.inputs.toNat : Nat) : Int) := by
  have h1 := hm.r2; have h2 := hm.i1; have h3 := hm.i2
  refine ⟨Nat.le_trans (Nat.mul_le_mul h1 (show m.inputs.toNat ≤ 16 by omega)) (by decide), ?_⟩
  rw [Int.natCast_mul, Int.toNat_of_nonneg (by omega)]
/-- Which states are reached from one. -/
inductive Reach (m : Mach) (s : Nat) : Nat → Prop
  | refl : Reach m s s
  | step {t i : Nat} : Reach m s t → t < m.rows.length → i < (m.rows.getD t default).length → 0 ≤ ((m.rows.getD t default).getD i default).to → Reach m s ((m.rows.getD t default).getD i default).to.toNat
theorem Reach.trans {m : Mach} {a b c : Nat} (h : Reach m a b) (k : Reach m b c) : Reach m a c := by
  induction k with
  | refl => exact h
  | step _ ht hi hto ih => exact .step ih ht hi hto
theorem Reach.lt {m : Mach} (hm : MOk m) {a b : Nat} (h : Reach m a b) (ha : a < m.rows.length) : b < m.rows.length := by
  cases h with
  | refl => exact ha
  | step h1 h2 h3 h4 => rcases hm.edge _ _ h2 h3 with h | h <;> omega
def Closed (m : Mach) (Y : List Bool) (t : Nat) : Prop := ∀ i, i < (m.rows.getD t default).length → 0 ≤ ((m.rows.getD t default).getD i default).to → Y.getD ((m.rows.getD t default).getD i default).to.toNat default = true
structure Vis (m : Mach) (X : List Bool) (s : Int) (Y : List Bool) : Prop where
  len : Y.length = X.length
  cnt : Y.count false ≤ X.count false
  mono : ∀ t, X.getD t default = true → Y.getD t default = true
  here : 0 ≤ s → Y.getD s.toNat default = true
  reach : ∀ t, Y.getD t default = true → X.getD t default = true ∨ (0 ≤ s ∧ Reach m s.toNat t)
  closed : ∀ t, t < m.rows.length → Y.getD t default = true → X.getD t default = true ∨ Closed m Y t
structure VisK (m : Mach) (X : List Bool) (s : Nat) (k : Nat) (Y : List Bool) : Prop where
  len : Y.length = X.length
  cnt : Y.count false < X.count false
  mono : ∀ t, X.getD t default = true → Y.getD t default = true
  here : Y.getD s default = true
  reach : ∀ t, Y.getD t default = true → X.getD t default = true ∨ Reach m s t
  closed : ∀ t, t < m.rows.length → Y.getD t default = true → X.getD t default = true ∨ t = s ∨ Closed m Y t
  done : ∀ i, i < k → 0 ≤ ((m.rows.getD s default).getD i default).to → Y.getD ((m.rows.getD s default).getD i default).to.toNat default = true
theorem edge_ext {x y : Edge} (h : x.to = y.to ∧ x.out = y.out) : x = y := by cases x; cases y; simp at h; simp [h]
theorem all_upto {P : Nat → Prop} {k : Nat} (h : ∀ j, j < k → P j) (hk : P k) : ∀ j, j < k + 1 → P j := fun j hj => by
  rcases Nat.lt_succ_iff_lt_or_eq.1 hj with h1 | rfl
  · exact h j h1
  · exact hk
def sameR (a b : Mach) : Bool := (((decide (checkM a = 0) && decide (checkM b = 0)) && decide (a.inputs = b.inputs)) && decide (a.outputs = b.outputs)) && decide (a.rows = b.rows)
theorem sameR_iff (a b : Mach) : sameR a b = true ↔ MOk a ∧ a = b := by
  unfold sameR
  simp only [Bool.and_eq_true, decide_eq_true_eq, checkM_iff]
  rw [mach_eq]
  refine ⟨fun ⟨⟨⟨⟨h1, h2⟩, h3⟩, h4⟩, h5⟩ => ⟨h1, h3, h4, h5⟩, fun ⟨h1, h3, h4, h5⟩ => ⟨⟨⟨⟨h1, ?_⟩, h3⟩, h4⟩, h5⟩⟩
  rwa [← (mach_eq.2 ⟨h3, h4, h5⟩ : a = b)]
theorem Small.mem {m : Mach} (h : Small m) {r : List Edge} (hr : r ∈ m.rows) : r.length ≤ 100 := by
  obtain ⟨k, hk, rfl⟩ := List.getElem_of_mem hr
  have := h.c k hk
  simpa [List.getD_eq_getElem?_getD, hk] using this
theorem fits_t {m : Mach} {x : Edge} (h : (x.to = -1 ∧ x.out = -1) ∨ (0 ≤ x.to ∧ x.to < m.rows.length ∧ 0 ≤ x.out ∧ x.out < m.outputs)) : (!fitsB m x) = false := by rw [(fitsB_iff m x).2 h]; rfl
theorem fits_f {m : Mach} {x : Edge} (h : ¬ ((x.to = -1 ∧ x.out = -1) ∨ (0 ≤ x.to ∧ x.to < m.rows.length ∧ 0 ≤ x.out ∧ x.out < m.outputs))) : (!fitsB m x) = true := by
  cases hf : fitsB m x
  · rfl
  · exact absurd ((fitsB_iff m x).1 hf) h
def complB (m : Mach) : Bool := decide ((defd m : Int) = m.rows.length * m.inputs)
/-- The rounds in which the document finds what is reached. -/
def AllC (m : Mach) (Y : List Bool) : Prop := ∀ t, t < m.rows.length → Y.getD t default = true → Closed m Y t
structure RInv (m : Mach) (a : Nat) (r : Nat) (Y : List Bool) : Prop where
  len : Y.length = m.rows.length
  sound : ∀ t, Y.getD t default = true → Reach m a t
  start : Y.getD a default = true
  prog : AllC m Y ∨ r < Y.count true
structure RPass (m : Mach) (a : Nat) (Y0 : List Bool) (s i : Nat) (Y : List Bool) : Prop where
  len : Y.length = m.rows.length
  sound : ∀ t, Y.getD t default = true → Reach m a t
  start : Y.getD a default = true
  fix : AllC m Y0 → Y = Y0
  prog : Y0.count true < Y.count true ∨ (Y = Y0 ∧ ∀ t, t < m.rows.length → Y.getD t default = true → ∀ j, (t < s ∨ (t = s ∧ j < i)) → j < (m.rows.getD t default).length → 0 ≤ ((m.rows.getD t default).getD j default).to → Y.getD ((m.rows.getD t default).getD j default).to.toNat default = true)
/-- Machines as plain data. -/
def MDat.n (x : MDat) : Int := 1 + x.states % 6
def MDat.inp (x : MDat) : Int := 1 + x.ins % 3
def MDat.out (x : MDat) : Int := 1 + x.outs % 3
def MDat.num (x : MDat) (k : Nat) : Int := if k < x.edges.length then x.edges.getD k default else 0
def edgeV (x : MDat) (v : Int) : Edge := if x.part = true ∧ v % 4 = 3 then ⟨-1, -1⟩ else ⟨v / 4 % x.n, v / 4 / x.n % x.out⟩
def edgeM (x : MDat) (s i : Nat) : Edge := edgeV x (x.num (s * x.inp.toNat + i))
def rowM (x : MDat) (s : Nat) : List Edge := (List.range x.inp.toNat).map (edgeM x s)
def mOf (x : MDat) : Mach := ⟨x.inp, x.out, (List.range x.n.toNat).map (rowM x)⟩
structure MDOk (x : MDat) : Prop where
  st : 0 ≤ x.states ∧ x.states ≤ 255
  ins : 0 ≤ x.ins ∧ x.ins ≤ 255
  outs : 0 ≤ x.outs ∧ x.outs ≤ 255
  ed : ∀ k, k < x.edges.length → 0 ≤ x.edges.getD k default ∧ x.edges.getD k default ≤ 65535
theorem MDOk.num {x : MDat} (h : MDOk x) (k : Nat) : 0 ≤ x.num k ∧ x.num k ≤ 65535 := by
  unfold MDat.num
  split
  · exact h.ed k (by assumption)
  · omega
theorem getD_map_range {α : Type} [Inhabited α] (f : Nat → α) {n k : Nat} (h : k < n) : ((List.range n).map f).getD k default = f k := by
  simp [List.getD_eq_getElem?_getD, h]
theorem edgeV_ok {x : MDat} {v : Int} {m : Mach} (hv : 0 ≤ v) (hn : (m.rows.length : Int) = x.n) (ho : m.outputs = x.out) (h1 : 1 ≤ x.n) (h2 : 1 ≤ x.out) : eOk m (edgeV x v) := by
  unfold edgeV eOk
  split
  · exact .inl ⟨rfl, rfl⟩
  · refine .inr ⟨Int.emod_nonneg _ (by omega), ?_, Int.emod_nonneg _ (by omega), ?_⟩
    · rw [hn]; exact Int.emod_lt_of_pos _ (by omega)
    · rw [ho]; exact Int.emod_lt_of_pos _ (by omega)
theorem mOf_ok {x : MDat} (h : MDOk x) : MOk (mOf x) := by
  have h1 := h.st; have h2 := h.ins; have h3 := h.outs
  have a1 : 1 ≤ x.n ∧ x.n ≤ 6 := by unfold MDat.n; omega
  have a2 : 1 ≤ x.inp ∧ x.inp ≤ 3 := by unfold MDat.inp; omega
  have a3 : 1 ≤ x.out ∧ x.out ≤ 3 := by unfold MDat.out; omega
  have hl : (mOf x).rows.length = x.n.toNat := by simp [mOf]
  have hrow : ∀ s, s < (mOf x).rows.length → (mOf x).rows.getD s default = rowM x s := fun s hs => getD_map_range _ (by omega)
  refine ⟨a2.1, by show x.inp ≤ 16; omega, a3.1, by show x.out ≤ 16; omega, by omega, by omega, fun s hs => ?_, fun s i hs hi => ?_⟩
  · rw [hrow s hs]; show ((rowM x s).length : Int) = x.inp; simp [rowM]; omega
  · rw [hrow s hs] at hi ⊢
    have hi' : i < x.inp.toNat := by simpa [rowM] using hi
    rw [show (rowM x s).getD i default = edgeM x s i from getD_map_range _ hi']
    exact edgeV_ok (h.num _).1 (by omega) rfl a1.1 a3.1
theorem edgeM_t {x : MDat} {s i : Nat} {v : Int} (hv : x.num (s * x.inp.toNat + i) = v) (h : x.part = true ∧ v % 4 = 3) : edgeM x s i = ⟨-1, -1⟩ := by
  unfold edgeM edgeV; rw [hv, if_pos h]
theorem edgeM_f {x : MDat} {s i : Nat} {v : Int} (hv : x.num (s * x.inp.toNat + i) = v) (h : x.part = true → ¬ v % 4 = 3) : edgeM x s i = ⟨v / 4 % x.n, v / 4 / x.n % x.out⟩ := by
  unfold edgeM edgeV; rw [hv, if_neg (fun hh => h hh.1 hh.2)]
theorem range_snoc {α : Type} (f : Nat → α) (k : Nat) : (List.range (k + 1)).map f = (List.range k).map f ++ [f k] := by rw [List.range_succ, List.map_append]; rfl
theorem mul_small {k : Nat} {a : Int} (hk : k ≤ 6) (ha : 1 ≤ a ∧ a ≤ 3) : 0 ≤ (k : Int) * a ∧ (k : Int) * a ≤ 18 ∧ (k : Int) * a = ((k * a.toNat : Nat) : Int) := by
  have e : (k : Int) * a = ((k * a.toNat : Nat) : Int) := by rw [Int.natCast_mul, Int.toNat_of_nonneg (by omega)]
  have h : k * a.toNat ≤ 6 * 3 := Nat.mul_le_mul hk (by omega)
  exact ⟨by omega, by omega, e⟩
/-- Words as plain data. -/
def wOf (x : WDat) (n : Int) : List Int := (x.syms.take 12).map (· % n)
structure WDOk (x : WDat) : Prop where
  sy : ∀ k, k < x.syms.length → 0 ≤ x.syms.getD k default ∧ x.syms.getD k default ≤ 255
theorem wOf_take {x : WDat} {n : Int} {k : Nat} (hk : k < x.syms.length) : (x.syms.take (k + 1)).map (· % n) = (x.syms.take k).map (· % n) ++ [x.syms.getD k default % n] := by
  rw [take_snoc _ k hk, List.map_append]; rfl
theorem wOf_end {x : WDat} {n : Int} {k : Nat} (h1 : k ≤ x.syms.length) (h2 : k ≤ 12) (h : k < x.syms.length → 12 ≤ k) : (x.syms.take k).map (· % n) = wOf x n := by
  unfold wOf
  by_cases e : k < x.syms.length
  · rw [show k = 12 from by have := h e; omega]
  · rw [List.take_of_length_le (by omega), List.take_of_length_le (by omega)]
theorem wOf_ok {x : WDat} {n : Int} (hn : 1 ≤ n) : WOk n (wOf x n) ∧ (wOf x n).length ≤ 12 := by
  refine ⟨fun k hk => ?_, by unfold wOf; rw [List.length_map, List.length_take]; omega⟩
  unfold wOf at hk ⊢
  rw [List.length_map] at hk
  simp only [List.getD_eq_getElem?_getD, List.getElem?_map, List.getElem?_eq_getElem hk, Option.map_some, Option.getD_some]
  exact ⟨Int.emod_nonneg _ (by omega), Int.emod_lt_of_pos _ (by omega)⟩
end GV
end Go.Proofs.Ytncblcdhmcmkmaa
