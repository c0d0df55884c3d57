import Derived.Test.YtplgbkaollfmkaaShPlain
set_option linter.unusedVariables false
set_option linter.unusedSimpArgs false
namespace Go.Proofs.Ytplgbkaollfmkaa
namespace GV
def eOk (m : Mach) (e : Edge) : Prop := (e.to = -1 ∧ e.out = -1) ∨ (0 ≤ e.to ∧ e.to < m.rows.length ∧ 0 ≤ e.out ∧ e.out < m.outputs)
structure MOk (m : Mach) : Prop where
  i1 : 1 ≤ m.inputs
  i2 : m.inputs ≤ 16
  o1 : 1 ≤ m.outputs
  o2 : m.outputs ≤ 16
  r1 : 1 ≤ m.rows.length
  r2 : m.rows.length ≤ 64
  row : ∀ s, s < m.rows.length → ((m.rows.getD s default).length : Int) = m.inputs
  edge : ∀ s i, s < m.rows.length → i < (m.rows.getD s default).length → eOk m ((m.rows.getD s default).getD i default)
def zba (l : List Edge) (k : Nat) : Nat := (l.take k).countP fun e => decide (0 ≤ e.to)
def zd3 (m : Mach) (k : Nat) : Nat := ((m.rows.take k).map fun r => r.countP fun e => decide (0 ≤ e.to)).sum
def zpz (m : Mach) : Nat := zd3 m m.rows.length
theorem zlu (l : List Edge) : zba l 0 = 0 := by simp [zba]
theorem zkr (l : List Edge) (k : Nat) (h : k < l.length) : zba l (k + 1) = zba l k + if 0 ≤ (l.getD k default).to then 1 else 0 := by
  unfold zba
  rw [List.take_succ_eq_append_getElem h, List.countP_append]
  simp [List.countP_cons, List.getD_eq_getElem?_getD, h]
theorem zjv (l : List Edge) (k : Nat) : zba l k ≤ k := by
  unfold zba; exact Nat.le_trans List.countP_le_length (List.length_take_le _ _)
theorem zak (m : Mach) (k : Nat) (h : k < m.rows.length) : zd3 m (k + 1) = zd3 m k + zba (m.rows.getD k default) (m.rows.getD k default).length := by
  unfold zd3 zba
  rw [List.take_succ_eq_append_getElem h, List.map_append, List.sum_append, List.take_length]
  congr 1
  simp [List.getD_eq_getElem?_getD, h]
def aa (m : Mach) (s i : Int) : Edge := if s < 0 then ⟨-1, -1⟩ else (m.rows.getD s.toNat default).getD i.toNat default
def z04 (m : Mach) : Int → List Int → List Int
  | _, [] => []
  | s, i :: w => (aa m s i).out :: z04 m (aa m s i).to w
def xe (m : Mach) : Int → List Int → Int
  | s, [] => s
  | s, i :: w => xe m (aa m s i).to w
def WOk (n : Int) (w : List Int) : Prop := ∀ k, k < w.length → 0 ≤ w.getD k default ∧ w.getD k default < n
def SOk (m : Mach) (s : Int) : Prop := s = -1 ∨ (0 ≤ s ∧ s < m.rows.length)
theorem z3w (m : Mach) : ∀ (s : Int) (u v : List Int), xe m s (u ++ v) = xe m (xe m s u) v
  | s, [], v => rfl
  | s, i :: u, v => z3w m _ u v
theorem zar (m : Mach) : ∀ (s : Int) (u v : List Int), z04 m s (u ++ v) = z04 m s u ++ z04 m (xe m s u) v
  | s, [], v => rfl
  | s, i :: u, v => by
    show _ :: z04 m _ (u ++ v) = _ :: (z04 m _ u ++ _)
    rw [zar m _ u v]; rfl
theorem z6c (m : Mach) : ∀ (s : Int) (w : List Int), (z04 m s w).length = w.length
  | s, [] => rfl
  | s, i :: w => by simp [z04, z6c m _ w]
theorem zee (w : List Int) (k : Nat) (h : k < w.length) : w.take (k + 1) = w.take k ++ [w.getD k default] := by
  rw [List.take_succ_eq_append_getElem h]; simp [List.getD_eq_getElem?_getD, h]
theorem zk2 (m : Mach) (s : Int) (w : List Int) (k : Nat) (h : k < w.length) : z04 m s (w.take (k + 1)) = z04 m s (w.take k) ++ [(aa m (xe m s (w.take k)) (w.getD k default)).out] := by
  rw [zee w k h, zar]; rfl
theorem zdz (m : Mach) (s : Int) (w : List Int) (k : Nat) (h : k < w.length) : xe m s (w.take (k + 1)) = (aa m (xe m s (w.take k)) (w.getD k default)).to := by
  rw [zee w k h, z3w]; rfl
theorem zgi (m : Mach) (hm : MOk m) (s i : Int) (hs : SOk m s) (hi : 0 ≤ i ∧ i < m.inputs) : SOk m (aa m s i).to ∧ -1 ≤ (aa m s i).out ∧ (aa m s i).out ≤ 16 := by
  unfold aa
  split
  · exact ⟨.inl rfl, by simp, by simp⟩
  · have hs' : 0 ≤ s ∧ s < m.rows.length := by rcases hs with h | h <;> omega
    have h1 := hm.row s.toNat (by omega)
    have h2 := hm.o2
    rcases hm.edge s.toNat i.toNat (by omega) (by omega) with h | h
    · exact ⟨.inl h.1, by omega, by omega⟩
    · exact ⟨.inr ⟨h.1, h.2.1⟩, by omega, by omega⟩
theorem zj4 (m : Mach) (hm : MOk m) : ∀ (s : Int) (w : List Int), SOk m s → WOk m.inputs w → SOk m (xe m s w)
  | s, [], hs, _ => hs
  | s, i :: w, hs, hw => zj4 m hm _ w (zgi m hm s i hs (by simpa using hw 0 (by simp))).1 (fun k hk => by simpa using hw (k + 1) (by simpa using hk))
theorem zh5 {n : Int} {w : List Int} (h : WOk n w) (k : Nat) : WOk n (w.take k) := fun j hj => by
  rw [List.length_take] at hj
  have := h j (by omega)
  rwa [show (w.take k).getD j default = w.getD j default from by simp only [List.getD_eq_getElem?_getD, List.getElem?_take]; rw [if_pos (by omega)]]
theorem zni (X : List Int) (n k : Nat) (z : Int) (hl : X.length = k) (hk : k < n) : (X ++ List.replicate (n - k) (0 : Int)).set k z = (X ++ [z]) ++ List.replicate (n - (k + 1)) (0 : Int) := by
  subst hl
  rw [List.set_append_right _ _ (Nat.le_refl _), Nat.sub_self, List.append_assoc]
  congr 1
  rw [show n - X.length = (n - (X.length + 1)) + 1 from by omega, List.replicate_succ]
  rfl
def zgt (m : Mach) (x : Edge) : Bool := decide (x.to = -1 ∧ x.out = -1) || (((decide (0 ≤ x.to) && decide (x.to < m.rows.length)) && decide (0 ≤ x.out)) && decide (x.out < m.outputs))
theorem zkb (m : Mach) (x : Edge) : zgt m x = true ↔ eOk m x := by
  simp [zgt, eOk]; omega
theorem z6g {α : Type} [Inhabited α] (p : α → Bool) (X : List α) (k : Nat) (h : k < X.length) : (X.take (k + 1)).any p = ((X.take k).any p || p (X.getD k default)) := by
  rw [List.take_succ_eq_append_getElem h, List.any_append]
  simp [List.getD_eq_getElem?_getD, h]
def zb4 {α : Type} (p : α → Bool) (X : List α) : Int := match X.findIdx? p with | some i => i | none => -1
theorem zfc {α : Type} (p : α → Bool) (X : List α) : decide (0 ≤ zb4 p X) = X.any p := by
  unfold zb4
  cases h : X.findIdx? p with
  | none =>
    have := List.findIdx?_eq_none_iff.1 h
    simp only [Bool.eq_false_iff] at *
    rw [show decide ((0 : Int) ≤ -1) = false from rfl]
    symm
    rw [List.any_eq_false]
    intro x hx
    simp [this x hx]
  | some i =>
    obtain ⟨hi, hp, _⟩ := List.findIdx?_eq_some_iff_getElem.1 h
    rw [show decide ((0 : Int) ≤ (i : Int)) = true from by simp]
    symm
    rw [List.any_eq_true]
    exact ⟨_, List.getElem_mem hi, hp⟩
theorem z8i {α : Type} [Inhabited α] (p : α → Bool) (X : List α) (k : Nat) (h : k < X.length) (hb : (X.take k).any p = false) (hp : p (X.getD k default) = true) : zb4 p X = k := by
  have : X.findIdx? p = some k := by
    rw [List.findIdx?_eq_some_iff_getElem]
    refine ⟨h, by simpa [List.getD_eq_getElem?_getD, h] using hp, fun j hj => ?_⟩
    rw [List.any_eq_false] at hb
    have := hb X[j] (by rw [List.mem_take_iff_getElem]; exact ⟨j, by omega, rfl⟩)
    simpa using this
  simp [zb4, this]
theorem zaa {α : Type} (p : α → Bool) (X : List α) (hb : X.any p = false) : zb4 p X = -1 := by
  have : X.findIdx? p = none := by
    rw [List.findIdx?_eq_none_iff]
    rw [List.any_eq_false] at hb
    intro x hx
    simpa using hb x hx
  simp [zb4, this]
def z3b (m : Mach) (r : List Edge) : Bool := decide ((r.length : Int) ≠ m.inputs) || r.any fun x => !zgt m x
def ni (m : Mach) : Int := if (16 < m.inputs ∨ 16 < m.outputs) ∨ 64 < m.rows.length then 3 else if (m.inputs < 1 ∨ m.outputs < 1) ∨ m.rows.length < 1 then 1 else if m.rows.any (z3b m) = true then 1 else 0
structure Small (m : Mach) : Prop where
  r : m.rows.length ≤ 100
  c : ∀ k, k < m.rows.length → (m.rows.getD k default).length ≤ 100
theorem zoc {m : Mach} (h : (16 < m.inputs ∨ 16 < m.outputs) ∨ 64 < m.rows.length) : ni m = 3 := by unfold ni; rw [if_pos h]
theorem znj {m : Mach} (h : ¬ ((16 < m.inputs ∨ 16 < m.outputs) ∨ 64 < m.rows.length)) (h1 : (m.inputs < 1 ∨ m.outputs < 1) ∨ m.rows.length < 1) : ni m = 1 := by unfold ni; rw [if_neg h, if_pos h1]
theorem zm9 {m : Mach} (h : ¬ ((16 < m.inputs ∨ 16 < m.outputs) ∨ 64 < m.rows.length)) (h1 : ¬ ((m.inputs < 1 ∨ m.outputs < 1) ∨ m.rows.length < 1)) (hr : m.rows.any (z3b m) = false) : ni m = 0 := by
  unfold ni; rw [if_neg h, if_neg h1, if_neg (by rw [hr]; decide)]
theorem z9n {α : Type} [Inhabited α] (p : α → Bool) (X : List α) : X.any p = false ↔ ∀ k, k < X.length → p (X.getD k default) = false := by
  rw [List.any_eq_false]
  refine ⟨fun h k hk => by simpa using h _ (l5 hk), fun h x hx => ?_⟩
  obtain ⟨k, hk, rfl⟩ := List.getElem_of_mem hx
  have := h k hk
  simp only [List.getD_eq_getElem?_getD, List.getElem?_eq_getElem hk, Option.getD_some] at this
  simp [this]
theorem z5j (m : Mach) (r : List Edge) : z3b m r = false ↔ (r.length : Int) = m.inputs ∧ ∀ i, i < r.length → eOk m (r.getD i default) := by
  unfold z3b
  rw [Bool.or_eq_false_iff, z9n]
  refine and_congr (by simp) (forall_congr' fun i => forall_congr' fun hi => ?_)
  rw [← zkb]; simp
theorem o8 (m : Mach) : ni m = 0 ↔ MOk m := by
  unfold ni
  by_cases h : (16 < m.inputs ∨ 16 < m.outputs) ∨ 64 < m.rows.length
  · rw [if_pos h]; exact ⟨fun h => absurd h (by decide), fun hm => by have := hm.i2; have := hm.o2; have := hm.r2; omega⟩
  rw [if_neg h]
  by_cases h1 : (m.inputs < 1 ∨ m.outputs < 1) ∨ m.rows.length < 1
  · rw [if_pos h1]; exact ⟨fun h => absurd h (by decide), fun hm => by have := hm.i1; have := hm.o1; have := hm.r1; omega⟩
  rw [if_neg h1]
  cases hr : m.rows.any (z3b m)
  · rw [if_neg (by decide)]
    have := (z9n _ _).1 hr
    exact ⟨fun _ => ⟨by omega, by omega, by omega, by omega, by omega, by omega, fun s hs => ((z5j m _).1 (this s hs)).1, fun s i hs hi => ((z5j m _).1 (this s hs)).2 i hi⟩, fun _ => rfl⟩
  · rw [if_pos rfl]
    refine ⟨fun h => absurd h (by decide), fun hm => ?_⟩
    have : m.rows.any (z3b m) = false := (z9n _ _).2 fun k hk => (z5j m _).2 ⟨hm.row k hk, fun i hi => hm.edge k i hk hi⟩
    rw [hr] at this; cases this
theorem MOk.small {m : Mach} (hm : MOk m) : Small m := ⟨by have := hm.r2; omega, fun k hk => by have := hm.row k hk; have := hm.i2; omega⟩
def z8o (n c : Int) : Bool := decide (c < 0) || decide (n ≤ c)
def z1w (w : List Int) (n : Int) : Int := if 16 < n ∨ 256 < w.length then 3 else if n < 1 then 1 else if w.any (z8o n) = true then 1 else 0
theorem zg6 {w : List Int} {n : Int} (h : 16 < n ∨ 256 < w.length) : z1w w n = 3 := by unfold z1w; rw [if_pos h]
theorem zhf {w : List Int} {n : Int} (h : ¬ (16 < n ∨ 256 < w.length)) (h1 : n < 1 ∨ w.any (z8o n) = true) : z1w w n = 1 := by
  unfold z1w; rw [if_neg h]
  by_cases h2 : n < 1
  · rw [if_pos h2]
  · rw [if_neg h2, if_pos (h1.resolve_left h2)]
theorem zh9 {w : List Int} {n : Int} (h : ¬ (16 < n ∨ 256 < w.length)) (h1 : ¬ (n < 1 ∨ w.any (z8o n) = true)) : z1w w n = 0 := by
  unfold z1w; rw [if_neg h, if_neg (fun h => h1 (.inl h)), if_neg (fun h => h1 (.inr h))]
theorem zgb {w : List Int} {n : Int} (h : z1w w n = 0) : WOk n w ∧ w.length ≤ 256 := by
  unfold z1w at h
  by_cases h1 : 16 < n ∨ 256 < w.length
  · rw [if_pos h1] at h; cases h
  rw [if_neg h1] at h
  by_cases h2 : n < 1
  · rw [if_pos h2] at h; cases h
  rw [if_neg h2] at h
  cases h3 : w.any (z8o n)
  · refine ⟨fun k hk => ?_, by omega⟩
    have := (z9n _ _).1 h3 k hk
    simp [z8o] at this
    exact this
  · rw [h3, if_pos rfl] at h; cases h
theorem zgu {α : Type} [Inhabited α] {X Y : List α} (hl : X.length = Y.length) (h : ∀ k, k < X.length → X.getD k default = Y.getD k default) : X = Y := by
  refine List.ext_getElem hl fun k h1 h2 => ?_
  have := h k h1
  simpa only [List.getD_eq_getElem?_getD, List.getElem?_eq_getElem h1, List.getElem?_eq_getElem h2, Option.getD_some] using this
def z2y (m : Mach) (k : Nat) : Edge := (m.rows.getD (k / m.inputs.toNat) default).getD (k % m.inputs.toNat) default
def z1u (m : Mach) (k : Nat) : List (Int × Int) := ((List.range k).filter fun k => decide ((z2y m k).to = -1 ∧ (z2y m k).out = -1)).map fun k => (((k / m.inputs.toNat : Nat) : Int), ((k % m.inputs.toNat : Nat) : Int))
def zfo (m : Mach) : List (Int × Int) := z1u m (m.rows.length * m.inputs.toNat)
theorem zh2 (m : Mach) : z1u m 0 = [] := rfl
theorem zaz (m : Mach) (k : Nat) : z1u m (k + 1) = z1u m k ++ if (z2y m k).to = -1 ∧ (z2y m k).out = -1 then [(((k / m.inputs.toNat : Nat) : Int), ((k % m.inputs.toNat : Nat) : Int))] else [] := by
  unfold z1u
  rw [List.range_succ, List.filter_append, List.map_append]
  congr 1
  by_cases h : (z2y m k).to = -1 ∧ (z2y m k).out = -1
  · rw [if_pos h]; simp [h]
  · rw [if_neg h]; simp only [List.filter_cons, List.filter_nil, decide_eq_false h]; rfl
theorem zk4 (m : Mach) (k : Nat) : (z1u m k).length ≤ k := by
  unfold z1u; rw [List.length_map]; exact Nat.le_trans (List.length_filter_le _ _) (by simp)
theorem zet {n k i : Nat} (h : i < n) : (k * n + i) / n = k := by
  rw [Nat.mul_comm, Nat.mul_add_div (by omega), Nat.div_eq_of_lt h]; rfl
theorem ze2 {n k i : Nat} (h : i < n) : (k * n + i) % n = i := by
  rw [Nat.mul_comm, Nat.mul_add_mod, Nat.mod_eq_of_lt h]
theorem MOk.mul {m : Mach} (hm : MOk m) : m.rows.length * m.inputs.toNat ≤ 1024 ∧ (m.rows.length : Int) * m.inputs = ((m.rows.length * m.inputs.toNat : Nat) : Int) := by
  have h1 := hm.r2; have h2 := hm.i1; have h3 := hm.i2
  refine ⟨Nat.le_trans (Nat.mul_le_mul h1 (show m.inputs.toNat ≤ 16 by omega)) (by decide), ?_⟩
  rw [Int.natCast_mul, Int.toNat_of_nonneg (by omega)]
theorem zoe {n k i N : Nat} (hk : k < N) (hi : i < n) : k * n + i < N * n := by
  have : (k + 1) * n ≤ N * n := Nat.mul_le_mul_right n hk
  rw [Nat.succ_mul] at this; omega
def zfj (m : Mach) : Bool := if ni m ≠ 0 then false else decide (((zfo m).length : Int) = 0)
theorem zsf {m : Mach} (hm : MOk m) (s : Int) (k : Nat) (hs : s.toNat < m.rows.length) (hk : k < (m.rows.getD s.toNat default).length) : SOk m ((m.rows.getD s.toNat default).getD k default).to := by
  rcases hm.edge s.toNat k hs hk with h | h
  · exact .inl h.1
  · exact .inr ⟨h.1, h.2.1⟩
inductive Reach (m : Mach) (s : Nat) : Nat → Prop
  | refl : Reach m s s
  | step {t i : Nat} : Reach m s t → t < m.rows.length → i < (m.rows.getD t default).length → 0 ≤ ((m.rows.getD t default).getD i default).to → Reach m s ((m.rows.getD t default).getD i default).to.toNat
theorem Reach.trans {m : Mach} {a b c : Nat} (h : Reach m a b) (k : Reach m b c) : Reach m a c := by
  induction k with
  | refl => exact h
  | step _ ht hi hto ih => exact .step ih ht hi hto
theorem Reach.lt {m : Mach} (hm : MOk m) {a b : Nat} (h : Reach m a b) (ha : a < m.rows.length) : b < m.rows.length := by
  cases h with
  | refl => exact ha
  | step h1 h2 h3 h4 => rcases hm.edge _ _ h2 h3 with h | h <;> omega
def Closed (m : Mach) (Y : List Bool) (t : Nat) : Prop := ∀ i, i < (m.rows.getD t default).length → 0 ≤ ((m.rows.getD t default).getD i default).to → Y.getD ((m.rows.getD t default).getD i default).to.toNat default = true
structure Vis (m : Mach) (X : List Bool) (s : Int) (Y : List Bool) : Prop where
  len : Y.length = X.length
  cnt : Y.count false ≤ X.count false
  mono : ∀ t, X.getD t default = true → Y.getD t default = true
  here : 0 ≤ s → Y.getD s.toNat default = true
  reach : ∀ t, Y.getD t default = true → X.getD t default = true ∨ (0 ≤ s ∧ Reach m s.toNat t)
  closed : ∀ t, t < m.rows.length → Y.getD t default = true → X.getD t default = true ∨ Closed m Y t
structure VisK (m : Mach) (X : List Bool) (s : Nat) (k : Nat) (Y : List Bool) : Prop where
  len : Y.length = X.length
  cnt : Y.count false < X.count false
  mono : ∀ t, X.getD t default = true → Y.getD t default = true
  here : Y.getD s default = true
  reach : ∀ t, Y.getD t default = true → X.getD t default = true ∨ Reach m s t
  closed : ∀ t, t < m.rows.length → Y.getD t default = true → X.getD t default = true ∨ t = s ∨ Closed m Y t
  done : ∀ i, i < k → 0 ≤ ((m.rows.getD s default).getD i default).to → Y.getD ((m.rows.getD s default).getD i default).to.toNat default = true
theorem znt {m : Mach} {X : List Bool} {s : Int} (h : s = -1 ∨ X.getD s.toNat default = true) (hs : s = -1 ∨ 0 ≤ s) : Vis m X s X :=
  ⟨rfl, Nat.le_refl _, fun _ h => h, fun h0 => by rcases h with h | h; omega; exact h, fun _ h => .inl h, fun _ _ h => .inl h⟩
theorem z4q {X : List Bool} {s t : Nat} (hs : s < X.length) : (X.set s true).getD t default = if t = s then true else X.getD t default := by
  simp only [List.getD_eq_getElem?_getD, List.getElem?_set]
  by_cases h : s = t
  · subst h; simp [hs]
  · rw [if_neg h, if_neg (fun e => h e.symm)]
theorem z8l : ∀ {X : List Bool} {s : Nat}, s < X.length → X.getD s default = false → (X.set s true).count false + 1 = X.count false
  | x :: X, 0, _, h => by
    have : x = false := by simpa using h
    subst this
    simp
  | x :: X, s + 1, hs, h => by
    have := z8l (X := X) (s := s) (by simpa using hs) (by simpa using h)
    rw [List.set_cons_succ, List.count_cons, List.count_cons]; omega
theorem zko {m : Mach} {X : List Bool} {s : Nat} (hs : s < X.length) (h : X.getD s default = false) : VisK m X s 0 (X.set s true) := by
  have hg := fun t => z4q (t := t) hs
  refine ⟨by simp, by have := z8l hs h; omega, fun t ht => by rw [hg]; split <;> simp_all, by rw [hg, if_pos rfl], fun t ht => ?_, fun t _ ht => ?_, fun i hi => by omega⟩
  · rw [hg] at ht
    by_cases e : t = s
    · subst e; exact .inr .refl
    · rw [if_neg e] at ht; exact .inl ht
  · rw [hg] at ht
    by_cases e : t = s
    · exact .inr (.inl e)
    · rw [if_neg e] at ht; exact .inl ht
theorem zkl {m : Mach} {X Y Z : List Bool} {s k : Nat} (hy : VisK m X s k Y) (hs : s < m.rows.length) (hk : k < (m.rows.getD s default).length) (hz : Vis m Y ((m.rows.getD s default).getD k default).to Z) : VisK m X s (k + 1) Z := by
  refine ⟨hz.len.trans hy.len, Nat.lt_of_le_of_lt hz.cnt hy.cnt, fun t ht => hz.mono t (hy.mono t ht), hz.mono _ hy.here, fun t ht => ?_, fun t htl ht => ?_, fun i hi h0 => ?_⟩
  · rcases hz.reach t ht with h | ⟨h0, h⟩
    · exact hy.reach t h
    · exact .inr ((Reach.step .refl hs hk h0).trans h)
  · rcases hz.closed t htl ht with h | h
    · rcases hy.closed t htl h with h | h | h
      · exact .inl h
      · exact .inr (.inl h)
      · exact .inr (.inr fun i hi h0 => hz.mono _ (h i hi h0))
    · exact .inr (.inr h)
  · rcases Nat.lt_succ_iff_lt_or_eq.1 hi with h | rfl
    · exact hz.mono _ (hy.done i h h0)
    · exact hz.here h0
theorem zmz {m : Mach} {X Y : List Bool} {s : Int} {k : Nat} (h0 : 0 ≤ s) (hy : VisK m X s.toNat k Y) (hk : ¬ k < (m.rows.getD s.toNat default).length) : Vis m X s Y :=
  ⟨hy.len, Nat.le_of_lt hy.cnt, hy.mono, fun _ => hy.here, fun t ht => (hy.reach t ht).imp id fun h => ⟨h0, h⟩, fun t htl ht => by
    rcases hy.closed t htl ht with h | rfl | h
    · exact .inl h
    · exact .inr fun i hi h0 => hy.done i (by omega) h0
    · exact .inr h⟩
noncomputable def connB (m : Mach) : Bool := @decide (∀ t, t < m.rows.length → Reach m 0 t) (Classical.propDecidable _)
theorem zn3 {m : Mach} {Y : List Bool} (hl : Y.length = m.rows.length) (h : ∀ t, t < m.rows.length → (Y.getD t default = true ↔ Reach m 0 t)) : connB m = !Y.contains false := by
  unfold connB
  cases hc : Y.contains false
  · refine (@decide_eq_true _ (Classical.propDecidable _) ?_).trans rfl
    intro t ht
    rw [← h t ht]
    cases hy : Y.getD t default with
    | true => rfl
    | false =>
      have : Y.contains false = true := by
        rw [List.contains_iff_mem, ← hy]; exact l5 (by omega)
      rw [hc] at this; cases this
  · refine (@decide_eq_false _ (Classical.propDecidable _) ?_).trans rfl
    intro hall
    rw [List.contains_iff_mem] at hc
    obtain ⟨k, hk, he⟩ := List.getElem_of_mem hc
    have := (h k (by omega)).2 (hall k (by omega))
    simp only [List.getD_eq_getElem?_getD, List.getElem?_eq_getElem hk, Option.getD_some, he] at this
    cases this
theorem zmy {m : Mach} (hm : MOk m) {n : Nat} (hn : n = m.rows.length) {Y : List Bool} (h : Vis m (List.replicate n false) 0 Y) : connB m = !Y.contains false := by
  have hr := hm.r1
  have hx : ∀ t, (List.replicate n false).getD t default = false := fun t => by
    simp only [List.getD_eq_getElem?_getD, List.getElem?_replicate]; split <;> rfl
  have hcl : ∀ t, t < m.rows.length → Y.getD t default = true → Closed m Y t := fun t ht hy => (h.closed t ht hy).resolve_left (by rw [hx]; simp)
  refine zn3 (by rw [h.len]; simp [hn]) fun t ht => ⟨fun hy => ?_, fun hre => ?_⟩
  · exact ((h.reach t hy).resolve_left (by rw [hx]; simp)).2
  · clear ht
    have key : ∀ t, Reach m 0 t → Y.getD t default = true ∧ t < m.rows.length := by
      intro t ht
      refine ⟨?_, ht.lt hm (by omega)⟩
      induction ht with
      | refl => exact h.here (Int.le_refl _)
      | step h1 h2 h3 h4 ih => exact hcl _ h2 ih _ h3 h4
    exact (key t hre).1
theorem zfp (Y : List Bool) : (Y.any fun x => decide (false = x)) = Y.contains false := by
  rw [Bool.eq_iff_iff, List.any_eq_true, List.contains_iff_mem]
  exact ⟨fun ⟨x, hx, h⟩ => by rw [of_decide_eq_true h]; exact hx, fun h => ⟨false, h, rfl⟩⟩
theorem zoj {P : Nat → Prop} {k : Nat} (h : ∀ j, j < k → P j) (hk : P k) : ∀ j, j < k + 1 → P j := fun j hj => by
  rcases Nat.lt_succ_iff_lt_or_eq.1 hj with h1 | rfl
  · exact h j h1
  · exact hk
theorem Small.mem {m : Mach} (h : Small m) {r : List Edge} (hr : r ∈ m.rows) : r.length ≤ 100 := by
  obtain ⟨k, hk, rfl⟩ := List.getElem_of_mem hr
  have := h.c k hk
  simpa [List.getD_eq_getElem?_getD, hk] using this
def ig (m : Mach) : Bool := decide ((zpz m : Int) = m.rows.length * m.inputs)
def ztn (m : Mach) (Y : List Bool) : Prop := ∀ t, t < m.rows.length → Y.getD t default = true → Closed m Y t
structure RInv (m : Mach) (a : Nat) (r : Nat) (Y : List Bool) : Prop where
  len : Y.length = m.rows.length
  sound : ∀ t, Y.getD t default = true → Reach m a t
  start : Y.getD a default = true
  prog : ztn m Y ∨ r < Y.count true
structure RPass (m : Mach) (a : Nat) (Y0 : List Bool) (s i : Nat) (Y : List Bool) : Prop where
  len : Y.length = m.rows.length
  sound : ∀ t, Y.getD t default = true → Reach m a t
  start : Y.getD a default = true
  fix : ztn m Y0 → Y = Y0
  prog : Y0.count true < Y.count true ∨ (Y = Y0 ∧ ∀ t, t < m.rows.length → Y.getD t default = true → ∀ j, (t < s ∨ (t = s ∧ j < i)) → j < (m.rows.getD t default).length → 0 ≤ ((m.rows.getD t default).getD j default).to → Y.getD ((m.rows.getD t default).getD j default).to.toNat default = true)
theorem zce : ∀ {X : List Bool} {s : Nat}, s < X.length → X.getD s default = false → (X.set s true).count true = X.count true + 1
  | x :: X, 0, _, h => by
    have : x = false := by simpa using h
    subst this
    simp
  | x :: X, s + 1, hs, h => by
    have := zce (X := X) (s := s) (by simpa using hs) (by simpa using h)
    rw [List.set_cons_succ, List.count_cons, List.count_cons]; omega
theorem zk7 {m : Mach} {a : Nat} (ha : a < m.rows.length) : RInv m a 0 ((List.replicate m.rows.length false).set a true) := by
  have hl : a < (List.replicate m.rows.length false).length := by simpa using ha
  have hx : ∀ t, (List.replicate m.rows.length false).getD t default = false := fun t => by
    simp only [List.getD_eq_getElem?_getD, List.getElem?_replicate]; split <;> rfl
  have hg := fun t => z4q (t := t) hl
  refine ⟨by simp, fun t ht => ?_, by rw [hg, if_pos rfl], .inr (by rw [zce hl (hx a)]; omega)⟩
  rw [hg, hx] at ht
  by_cases e : t = a
  · subst e; exact .refl
  · rw [if_neg e] at ht; cases ht
noncomputable def reachL (m : Mach) (a : Nat) : List Bool := (List.range m.rows.length).map fun t => @decide (Reach m a t) (Classical.propDecidable _)
theorem zca {m : Mach} {a t : Nat} (ht : t < m.rows.length) : (reachL m a).getD t default = true ↔ Reach m a t := by
  unfold reachL
  simp only [List.getD_eq_getElem?_getD, List.getElem?_map, List.getElem?_range ht, Option.map_some, Option.getD_some]
  exact ⟨fun h => @of_decide_eq_true _ (Classical.propDecidable _) h, fun h => @decide_eq_true _ (Classical.propDecidable _) h⟩
theorem z4g (m : Mach) (a : Nat) : (reachL m a).length = m.rows.length := by simp [reachL]
theorem z08 {α : Type} [Inhabited α] (f : Nat → α) {n k : Nat} (h : k < n) : ((List.range n).map f).getD k default = f k := by
  simp [List.getD_eq_getElem?_getD, h]
theorem zhw {α : Type} (f : Nat → α) (k : Nat) : (List.range (k + 1)).map f = (List.range k).map f ++ [f k] := by rw [List.range_succ, List.map_append]; rfl
end GV
end Go.Proofs.Ytplgbkaollfmkaa
