import Derived.Test.YtplgbkaollfmkaaShPlain
set_option linter.unusedVariables false
set_option linter.unusedSimpArgs false
namespace Go.Proofs.Ytplgbkaollfmkaa
namespace GV
def eOk (m : Mach) (e : Edge) : Prop := (e.to = -1 ∧ e.out = -1) ∨ (0 ≤ e.to ∧ e.to < m.rows.length ∧ 0 ≤ e.out ∧ e.out < m.outputs)
structure MOk (m : Mach) : Prop where
  i1 : 1 ≤ m.inputs
  i2 : m.inputs ≤ 16
  o1 : 1 ≤ m.outputs
  o2 : m.outputs ≤ 16
  r1 : 1 ≤ m.rows.length
  r2 : m.rows.length ≤ 64
  row : ∀ s, s < m.rows.length → ((m.rows.getD s default).length : Int) = m.inputs
  edge : ∀ s i, s < m.rows.length → i < (m.rows.getD s default).length → eOk m ((m.rows.getD s default).getD i default)
def zde (l : List Edge) (k : Nat) : Nat := (l.take k).countP fun e => decide (0 ≤ e.to)
def zb7 (m : Mach) (k : Nat) : Nat := ((m.rows.take k).map fun r => r.countP fun e => decide (0 ≤ e.to)).sum
def zt7 (m : Mach) : Nat := zb7 m m.rows.length
theorem zh9 (l : List Edge) : zde l 0 = 0 := by simp [zde]
theorem zi0 (l : List Edge) (k : Nat) (h : k < l.length) : zde l (k + 1) = zde l k + if 0 ≤ (l.getD k default).to then 1 else 0 := by
  unfold zde
  rw [List.take_succ_eq_append_getElem h, List.countP_append]
  simp [List.countP_cons, List.getD_eq_getElem?_getD, h]
theorem znh (l : List Edge) (k : Nat) : zde l k ≤ k := by
  unfold zde; exact Nat.le_trans List.countP_le_length (List.length_take_le _ _)
theorem zds (m : Mach) (k : Nat) (h : k < m.rows.length) : zb7 m (k + 1) = zb7 m k + zde (m.rows.getD k default) (m.rows.getD k default).length := by
  unfold zb7 zde
  rw [List.take_succ_eq_append_getElem h, List.map_append, List.sum_append, List.take_length]
  congr 1
  simp [List.getD_eq_getElem?_getD, h]
theorem zn3 (m : Mach) (hm : MOk m) : ∀ k, k ≤ m.rows.length → zb7 m k ≤ 16 * k
  | 0, _ => by simp [zb7]
  | k + 1, h => by
    rw [zds m k h]
    have := zn3 m hm k (by omega)
    have h2 := znh (m.rows.getD k default) (m.rows.getD k default).length
    have h3 := hm.row k h
    have h4 := hm.i2
    omega
def ll (m : Mach) (s i : Int) : Edge := if s < 0 then ⟨-1, -1⟩ else (m.rows.getD s.toNat default).getD i.toNat default
def oh (m : Mach) : Int → List Int → List Int
  | _, [] => []
  | s, i :: w => (ll m s i).out :: oh m (ll m s i).to w
def lq (m : Mach) : Int → List Int → Int
  | s, [] => s
  | s, i :: w => lq m (ll m s i).to w
def WOk (n : Int) (w : List Int) : Prop := ∀ k, k < w.length → 0 ≤ w.getD k default ∧ w.getD k default < n
def SOk (m : Mach) (s : Int) : Prop := s = -1 ∨ (0 ≤ s ∧ s < m.rows.length)
theorem z7l (m : Mach) : ∀ (s : Int) (u v : List Int), lq m s (u ++ v) = lq m (lq m s u) v
  | s, [], v => rfl
  | s, i :: u, v => z7l m _ u v
theorem zec (m : Mach) : ∀ (s : Int) (u v : List Int), oh m s (u ++ v) = oh m s u ++ oh m (lq m s u) v
  | s, [], v => rfl
  | s, i :: u, v => by
    show _ :: oh m _ (u ++ v) = _ :: (oh m _ u ++ _)
    rw [zec m _ u v]; rfl
theorem l5 (m : Mach) : ∀ (s : Int) (w : List Int), (oh m s w).length = w.length
  | s, [] => rfl
  | s, i :: w => by simp [oh, l5 m _ w]
theorem zha (w : List Int) (k : Nat) (h : k < w.length) : w.take (k + 1) = w.take k ++ [w.getD k default] := by
  rw [List.take_succ_eq_append_getElem h]; simp [List.getD_eq_getElem?_getD, h]
theorem zat (m : Mach) (s : Int) (w : List Int) (k : Nat) (h : k < w.length) : oh m s (w.take (k + 1)) = oh m s (w.take k) ++ [(ll m (lq m s (w.take k)) (w.getD k default)).out] := by
  rw [zha w k h, zec]; rfl
theorem zan (m : Mach) (s : Int) (w : List Int) (k : Nat) (h : k < w.length) : lq m s (w.take (k + 1)) = (ll m (lq m s (w.take k)) (w.getD k default)).to := by
  rw [zha w k h, z7l]; rfl
theorem zky (m : Mach) (hm : MOk m) (s i : Int) (hs : SOk m s) (hi : 0 ≤ i ∧ i < m.inputs) : SOk m (ll m s i).to ∧ -1 ≤ (ll m s i).out ∧ (ll m s i).out ≤ 16 := by
  unfold ll
  split
  · exact ⟨.inl rfl, by simp, by simp⟩
  · have hs' : 0 ≤ s ∧ s < m.rows.length := by rcases hs with h | h <;> omega
    have h1 := hm.row s.toNat (by omega)
    have h2 := hm.o2
    rcases hm.edge s.toNat i.toNat (by omega) (by omega) with h | h
    · exact ⟨.inl h.1, by omega, by omega⟩
    · exact ⟨.inr ⟨h.1, h.2.1⟩, by omega, by omega⟩
theorem zcr (m : Mach) (hm : MOk m) : ∀ (s : Int) (w : List Int), SOk m s → WOk m.inputs w → SOk m (lq m s w)
  | s, [], hs, _ => hs
  | s, i :: w, hs, hw => zcr m hm _ w (zky m hm s i hs (by simpa using hw 0 (by simp))).1 (fun k hk => by simpa using hw (k + 1) (by simpa using hk))
theorem zc9 {n : Int} {w : List Int} (h : WOk n w) (k : Nat) : WOk n (w.take k) := fun j hj => by
  rw [List.length_take] at hj
  have := h j (by omega)
  rwa [show (w.take k).getD j default = w.getD j default from by simp only [List.getD_eq_getElem?_getD, List.getElem?_take]; rw [if_pos (by omega)]]
theorem zra (X : List Int) (n k : Nat) (z : Int) (hl : X.length = k) (hk : k < n) : (X ++ List.replicate (n - k) (0 : Int)).set k z = (X ++ [z]) ++ List.replicate (n - (k + 1)) (0 : Int) := by
  subst hl
  rw [List.set_append_right _ _ (Nat.le_refl _), Nat.sub_self, List.append_assoc]
  congr 1
  rw [show n - X.length = (n - (X.length + 1)) + 1 from by omega, List.replicate_succ]
  rfl
def zcd (m : Mach) (x : Edge) : Bool := decide (x.to = -1 ∧ x.out = -1) || (((decide (0 ≤ x.to) && decide (x.to < m.rows.length)) && decide (0 ≤ x.out)) && decide (x.out < m.outputs))
theorem ze3 (m : Mach) (x : Edge) : zcd m x = true ↔ eOk m x := by
  simp [zcd, eOk]; omega
theorem z4o {α : Type} [Inhabited α] (p : α → Bool) (X : List α) (k : Nat) (h : k < X.length) : (X.take (k + 1)).any p = ((X.take k).any p || p (X.getD k default)) := by
  rw [List.take_succ_eq_append_getElem h, List.any_append]
  simp [List.getD_eq_getElem?_getD, h]
def zem {α : Type} (p : α → Bool) (X : List α) : Int := match X.findIdx? p with | some i => i | none => -1
theorem zj6 {α : Type} (p : α → Bool) (X : List α) : decide (0 ≤ zem p X) = X.any p := by
  unfold zem
  cases h : X.findIdx? p with
  | none =>
    have := List.findIdx?_eq_none_iff.1 h
    simp only [Bool.eq_false_iff] at *
    rw [show decide ((0 : Int) ≤ -1) = false from rfl]
    symm
    rw [List.any_eq_false]
    intro x hx
    simp [this x hx]
  | some i =>
    obtain ⟨hi, hp, _⟩ := List.findIdx?_eq_some_iff_getElem.1 h
    rw [show decide ((0 : Int) ≤ (i : Int)) = true from by simp]
    symm
    rw [List.any_eq_true]
    exact ⟨_, List.getElem_mem hi, hp⟩
theorem zbi {α : Type} [Inhabited α] (p : α → Bool) (X : List α) (k : Nat) (h : k < X.length) (hb : (X.take k).any p = false) (hp : p (X.getD k default) = true) : zem p X = k := by
  have : X.findIdx? p = some k := by
    rw [List.findIdx?_eq_some_iff_getElem]
    refine ⟨h, by simpa [List.getD_eq_getElem?_getD, h] using hp, fun j hj => ?_⟩
    rw [List.any_eq_false] at hb
    have := hb X[j] (by rw [List.mem_take_iff_getElem]; exact ⟨j, by omega, rfl⟩)
    simpa using this
  simp [zem, this]
theorem zdv {α : Type} (p : α → Bool) (X : List α) (hb : X.any p = false) : zem p X = -1 := by
  have : X.findIdx? p = none := by
    rw [List.findIdx?_eq_none_iff]
    rw [List.any_eq_false] at hb
    intro x hx
    simpa using hb x hx
  simp [zem, this]
def z0f (m : Mach) (r : List Edge) : Bool := decide ((r.length : Int) ≠ m.inputs) || r.any fun x => !zcd m x
def l9 (m : Mach) : Int := if (16 < m.inputs ∨ 16 < m.outputs) ∨ 64 < m.rows.length then 3 else if (m.inputs < 1 ∨ m.outputs < 1) ∨ m.rows.length < 1 then 1 else if m.rows.any (z0f m) = true then 1 else 0
structure Small (m : Mach) : Prop where
  r : m.rows.length ≤ 100
  c : ∀ k, k < m.rows.length → (m.rows.getD k default).length ≤ 100
theorem zkt {m : Mach} (h : (16 < m.inputs ∨ 16 < m.outputs) ∨ 64 < m.rows.length) : l9 m = 3 := by unfold l9; rw [if_pos h]
theorem zk9 {m : Mach} (h : ¬ ((16 < m.inputs ∨ 16 < m.outputs) ∨ 64 < m.rows.length)) (h1 : (m.inputs < 1 ∨ m.outputs < 1) ∨ m.rows.length < 1) : l9 m = 1 := by unfold l9; rw [if_neg h, if_pos h1]
theorem zkb {m : Mach} (h : ¬ ((16 < m.inputs ∨ 16 < m.outputs) ∨ 64 < m.rows.length)) (h1 : ¬ ((m.inputs < 1 ∨ m.outputs < 1) ∨ m.rows.length < 1)) (hr : m.rows.any (z0f m) = false) : l9 m = 0 := by
  unfold l9; rw [if_neg h, if_neg h1, if_neg (by rw [hr]; decide)]
theorem zc4 {α : Type} [Inhabited α] (p : α → Bool) (X : List α) : X.any p = false ↔ ∀ k, k < X.length → p (X.getD k default) = false := by
  rw [List.any_eq_false]
  refine ⟨fun h k hk => by simpa using h _ (sj hk), fun h x hx => ?_⟩
  obtain ⟨k, hk, rfl⟩ := List.getElem_of_mem hx
  have := h k hk
  simp only [List.getD_eq_getElem?_getD, List.getElem?_eq_getElem hk, Option.getD_some] at this
  simp [this]
theorem z8v (m : Mach) (r : List Edge) : z0f m r = false ↔ (r.length : Int) = m.inputs ∧ ∀ i, i < r.length → eOk m (r.getD i default) := by
  unfold z0f
  rw [Bool.or_eq_false_iff, zc4]
  refine and_congr (by simp) (forall_congr' fun i => forall_congr' fun hi => ?_)
  rw [← ze3]; simp
theorem z1o (m : Mach) : l9 m = 0 ↔ MOk m := by
  unfold l9
  by_cases h : (16 < m.inputs ∨ 16 < m.outputs) ∨ 64 < m.rows.length
  · rw [if_pos h]; exact ⟨fun h => absurd h (by decide), fun hm => by have := hm.i2; have := hm.o2; have := hm.r2; omega⟩
  rw [if_neg h]
  by_cases h1 : (m.inputs < 1 ∨ m.outputs < 1) ∨ m.rows.length < 1
  · rw [if_pos h1]; exact ⟨fun h => absurd h (by decide), fun hm => by have := hm.i1; have := hm.o1; have := hm.r1; omega⟩
  rw [if_neg h1]
  cases hr : m.rows.any (z0f m)
  · rw [if_neg (by decide)]
    have := (zc4 _ _).1 hr
    exact ⟨fun _ => ⟨by omega, by omega, by omega, by omega, by omega, by omega, fun s hs => ((z8v m _).1 (this s hs)).1, fun s i hs hi => ((z8v m _).1 (this s hs)).2 i hi⟩, fun _ => rfl⟩
  · rw [if_pos rfl]
    refine ⟨fun h => absurd h (by decide), fun hm => ?_⟩
    have : m.rows.any (z0f m) = false := (zc4 _ _).2 fun k hk => (z8v m _).2 ⟨hm.row k hk, fun i hi => hm.edge k i hk hi⟩
    rw [hr] at this; cases this
theorem MOk.small {m : Mach} (hm : MOk m) : Small m := ⟨by have := hm.r2; omega, fun k hk => by have := hm.row k hk; have := hm.i2; omega⟩
def zbx (n c : Int) : Bool := decide (c < 0) || decide (n ≤ c)
def z4y (w : List Int) (n : Int) : Int := if 16 < n ∨ 256 < w.length then 3 else if n < 1 then 1 else if w.any (zbx n) = true then 1 else 0
theorem zje {w : List Int} {n : Int} (h : 16 < n ∨ 256 < w.length) : z4y w n = 3 := by unfold z4y; rw [if_pos h]
theorem zjy {w : List Int} {n : Int} (h : ¬ (16 < n ∨ 256 < w.length)) (h1 : n < 1 ∨ w.any (zbx n) = true) : z4y w n = 1 := by
  unfold z4y; rw [if_neg h]
  by_cases h2 : n < 1
  · rw [if_pos h2]
  · rw [if_neg h2, if_pos (h1.resolve_left h2)]
theorem zk4 {w : List Int} {n : Int} (h : ¬ (16 < n ∨ 256 < w.length)) (h1 : ¬ (n < 1 ∨ w.any (zbx n) = true)) : z4y w n = 0 := by
  unfold z4y; rw [if_neg h, if_neg (fun h => h1 (.inl h)), if_neg (fun h => h1 (.inr h))]
theorem zkn {w : List Int} {n : Int} (h : z4y w n = 0) : WOk n w ∧ w.length ≤ 256 := by
  unfold z4y at h
  by_cases h1 : 16 < n ∨ 256 < w.length
  · rw [if_pos h1] at h; cases h
  rw [if_neg h1] at h
  by_cases h2 : n < 1
  · rw [if_pos h2] at h; cases h
  rw [if_neg h2] at h
  cases h3 : w.any (zbx n)
  · refine ⟨fun k hk => ?_, by omega⟩
    have := (zc4 _ _).1 h3 k hk
    simp [zbx] at this
    exact this
  · rw [h3, if_pos rfl] at h; cases h
def zdn : List Int → List Int → Int
  | x :: a, y :: b => if x < y then -1 else if y < x then 1 else zdn a b
  | _, _ => 0
def cmpL (a b : List Int) : Int := if a.length < b.length then -1 else if b.length < a.length then 1 else zdn a b
theorem zhw {α : Type} [Inhabited α] (X : List α) (k : Nat) (h : k < X.length) : X.drop k = X.getD k default :: X.drop (k + 1) := by
  rw [List.drop_eq_getElem_cons h]; simp [List.getD_eq_getElem?_getD, h]
theorem zp6 {a b : List Int} {k : Nat} (ha : k < a.length) (hb : k < b.length) : zdn (a.drop k) (b.drop k) = if a.getD k default < b.getD k default then -1 else if b.getD k default < a.getD k default then 1 else zdn (a.drop (k + 1)) (b.drop (k + 1)) := by
  rw [zhw a k ha, zhw b k hb]; rfl
theorem zni : ∀ (a b : List Int), a.length = b.length → (zdn a b = 0 ↔ a = b)
  | [], [], _ => by simp [zdn]
  | x :: a, y :: b, h => by
    have ih := zni a b (by simpa using h)
    unfold zdn
    by_cases h1 : x < y
    · rw [if_pos h1]; simp; omega
    by_cases h2 : y < x
    · rw [if_neg h1, if_pos h2]; simp; omega
    rw [if_neg h1, if_neg h2, ih, show x = y from by omega]; simp
theorem cmpL_eq (a b : List Int) : cmpL a b = 0 ↔ a = b := by
  unfold cmpL
  by_cases h1 : a.length < b.length
  · rw [if_pos h1]; exact ⟨fun h => absurd h (by decide), fun h => by subst h; omega⟩
  by_cases h2 : b.length < a.length
  · rw [if_neg h1, if_pos h2]; exact ⟨fun h => absurd h (by decide), fun h => by subst h; omega⟩
  rw [if_neg h1, if_neg h2]
  exact zni a b (by omega)
theorem zdd {α : Type} [Inhabited α] {X Y : List α} (hl : X.length = Y.length) (h : ∀ k, k < X.length → X.getD k default = Y.getD k default) : X = Y := by
  refine List.ext_getElem hl fun k h1 h2 => ?_
  have := h k h1
  simpa only [List.getD_eq_getElem?_getD, List.getElem?_eq_getElem h1, List.getElem?_eq_getElem h2, Option.getD_some] using this
def z6a (m : Mach) (k : Nat) : Edge := (m.rows.getD (k / m.inputs.toNat) default).getD (k % m.inputs.toNat) default
def z4x (m : Mach) (k : Nat) : List (Int × Int) := ((List.range k).filter fun k => decide ((z6a m k).to = -1 ∧ (z6a m k).out = -1)).map fun k => (((k / m.inputs.toNat : Nat) : Int), ((k % m.inputs.toNat : Nat) : Int))
def zio (m : Mach) : List (Int × Int) := z4x m (m.rows.length * m.inputs.toNat)
theorem zjm (m : Mach) : z4x m 0 = [] := rfl
theorem zed (m : Mach) (k : Nat) : z4x m (k + 1) = z4x m k ++ if (z6a m k).to = -1 ∧ (z6a m k).out = -1 then [(((k / m.inputs.toNat : Nat) : Int), ((k % m.inputs.toNat : Nat) : Int))] else [] := by
  unfold z4x
  rw [List.range_succ, List.filter_append, List.map_append]
  congr 1
  by_cases h : (z6a m k).to = -1 ∧ (z6a m k).out = -1
  · rw [if_pos h]; simp [h]
  · rw [if_neg h]; simp only [List.filter_cons, List.filter_nil, decide_eq_false h]; rfl
theorem zoj (m : Mach) (k : Nat) : (z4x m k).length ≤ k := by
  unfold z4x; rw [List.length_map]; exact Nat.le_trans (List.length_filter_le _ _) (by simp)
theorem zhu {n k i : Nat} (h : i < n) : (k * n + i) / n = k := by
  rw [Nat.mul_comm, Nat.mul_add_div (by omega), Nat.div_eq_of_lt h]; rfl
theorem zhx {n k i : Nat} (h : i < n) : (k * n + i) % n = i := by
  rw [Nat.mul_comm, Nat.mul_add_mod, Nat.mod_eq_of_lt h]
theorem MOk.mul {m : Mach} (hm : MOk m) : m.rows.length * m.inputs.toNat ≤ 1024 ∧ (m.rows.length : Int) * m.inputs = ((m.rows.length * m.inputs.toNat : Nat) : Int) := by
  have h1 := hm.r2; have h2 := hm.i1; have h3 := hm.i2
  refine ⟨Nat.le_trans (Nat.mul_le_mul h1 (show m.inputs.toNat ≤ 16 by omega)) (by decide), ?_⟩
  rw [Int.natCast_mul, Int.toNat_of_nonneg (by omega)]
theorem zqn {n k i N : Nat} (hk : k < N) (hi : i < n) : k * n + i < N * n := by
  have : (k + 1) * n ≤ N * n := Nat.mul_le_mul_right n hk
  rw [Nat.succ_mul] at this; omega
def zik (m : Mach) : Bool := if l9 m ≠ 0 then false else decide (((zio m).length : Int) = 0)
theorem zvi {m : Mach} (hm : MOk m) (s : Int) (k : Nat) (hs : s.toNat < m.rows.length) (hk : k < (m.rows.getD s.toNat default).length) : SOk m ((m.rows.getD s.toNat default).getD k default).to := by
  rcases hm.edge s.toNat k hs hk with h | h
  · exact .inl h.1
  · exact .inr ⟨h.1, h.2.1⟩
inductive Reach (m : Mach) (s : Nat) : Nat → Prop
  | refl : Reach m s s
  | step {t i : Nat} : Reach m s t → t < m.rows.length → i < (m.rows.getD t default).length → 0 ≤ ((m.rows.getD t default).getD i default).to → Reach m s ((m.rows.getD t default).getD i default).to.toNat
theorem Reach.trans {m : Mach} {a b c : Nat} (h : Reach m a b) (k : Reach m b c) : Reach m a c := by
  induction k with
  | refl => exact h
  | step _ ht hi hto ih => exact .step ih ht hi hto
theorem Reach.lt {m : Mach} (hm : MOk m) {a b : Nat} (h : Reach m a b) (ha : a < m.rows.length) : b < m.rows.length := by
  cases h with
  | refl => exact ha
  | step h1 h2 h3 h4 => rcases hm.edge _ _ h2 h3 with h | h <;> omega
def Closed (m : Mach) (Y : List Bool) (t : Nat) : Prop := ∀ i, i < (m.rows.getD t default).length → 0 ≤ ((m.rows.getD t default).getD i default).to → Y.getD ((m.rows.getD t default).getD i default).to.toNat default = true
structure Vis (m : Mach) (X : List Bool) (s : Int) (Y : List Bool) : Prop where
  len : Y.length = X.length
  cnt : Y.count false ≤ X.count false
  mono : ∀ t, X.getD t default = true → Y.getD t default = true
  here : 0 ≤ s → Y.getD s.toNat default = true
  reach : ∀ t, Y.getD t default = true → X.getD t default = true ∨ (0 ≤ s ∧ Reach m s.toNat t)
  closed : ∀ t, t < m.rows.length → Y.getD t default = true → X.getD t default = true ∨ Closed m Y t
structure VisK (m : Mach) (X : List Bool) (s : Nat) (k : Nat) (Y : List Bool) : Prop where
  len : Y.length = X.length
  cnt : Y.count false < X.count false
  mono : ∀ t, X.getD t default = true → Y.getD t default = true
  here : Y.getD s default = true
  reach : ∀ t, Y.getD t default = true → X.getD t default = true ∨ Reach m s t
  closed : ∀ t, t < m.rows.length → Y.getD t default = true → X.getD t default = true ∨ t = s ∨ Closed m Y t
  done : ∀ i, i < k → 0 ≤ ((m.rows.getD s default).getD i default).to → Y.getD ((m.rows.getD s default).getD i default).to.toNat default = true
theorem zqf {m : Mach} {X : List Bool} {s : Int} (h : s = -1 ∨ X.getD s.toNat default = true) (hs : s = -1 ∨ 0 ≤ s) : Vis m X s X :=
  ⟨rfl, Nat.le_refl _, fun _ h => h, fun h0 => by rcases h with h | h; omega; exact h, fun _ h => .inl h, fun _ _ h => .inl h⟩
theorem z4v {X : List Bool} {s t : Nat} (hs : s < X.length) : (X.set s true).getD t default = if t = s then true else X.getD t default := by
  simp only [List.getD_eq_getElem?_getD, List.getElem?_set]
  by_cases h : s = t
  · subst h; simp [hs]
  · rw [if_neg h, if_neg (fun e => h e.symm)]
theorem zbz : ∀ {X : List Bool} {s : Nat}, s < X.length → X.getD s default = false → (X.set s true).count false + 1 = X.count false
  | x :: X, 0, _, h => by
    have : x = false := by simpa using h
    subst this
    simp
  | x :: X, s + 1, hs, h => by
    have := zbz (X := X) (s := s) (by simpa using hs) (by simpa using h)
    rw [List.set_cons_succ, List.count_cons, List.count_cons]; omega
theorem zoz {m : Mach} {X : List Bool} {s : Nat} (hs : s < X.length) (h : X.getD s default = false) : VisK m X s 0 (X.set s true) := by
  have hg := fun t => z4v (t := t) hs
  refine ⟨by simp, by have := zbz hs h; omega, fun t ht => by rw [hg]; split <;> simp_all, by rw [hg, if_pos rfl], fun t ht => ?_, fun t _ ht => ?_, fun i hi => by omega⟩
  · rw [hg] at ht
    by_cases e : t = s
    · subst e; exact .inr .refl
    · rw [if_neg e] at ht; exact .inl ht
  · rw [hg] at ht
    by_cases e : t = s
    · exact .inr (.inl e)
    · rw [if_neg e] at ht; exact .inl ht
theorem zog {m : Mach} {X Y Z : List Bool} {s k : Nat} (hy : VisK m X s k Y) (hs : s < m.rows.length) (hk : k < (m.rows.getD s default).length) (hz : Vis m Y ((m.rows.getD s default).getD k default).to Z) : VisK m X s (k + 1) Z := by
  refine ⟨hz.len.trans hy.len, Nat.lt_of_le_of_lt hz.cnt hy.cnt, fun t ht => hz.mono t (hy.mono t ht), hz.mono _ hy.here, fun t ht => ?_, fun t htl ht => ?_, fun i hi h0 => ?_⟩
  · rcases hz.reach t ht with h | ⟨h0, h⟩
    · exact hy.reach t h
    · exact .inr ((Reach.step .refl hs hk h0).trans h)
  · rcases hz.closed t htl ht with h | h
    · rcases hy.closed t htl h with h | h | h
      · exact .inl h
      · exact .inr (.inl h)
      · exact .inr (.inr fun i hi h0 => hz.mono _ (h i hi h0))
    · exact .inr (.inr h)
  · rcases Nat.lt_succ_iff_lt_or_eq.1 hi with h | rfl
    · exact hz.mono _ (hy.done i h h0)
    · exact hz.here h0
theorem zs2 {m : Mach} {X Y : List Bool} {s : Int} {k : Nat} (h0 : 0 ≤ s) (hy : VisK m X s.toNat k Y) (hk : ¬ k < (m.rows.getD s.toNat default).length) : Vis m X s Y :=
  ⟨hy.len, Nat.le_of_lt hy.cnt, hy.mono, fun _ => hy.here, fun t ht => (hy.reach t ht).imp id fun h => ⟨h0, h⟩, fun t htl ht => by
    rcases hy.closed t htl ht with h | rfl | h
    · exact .inl h
    · exact .inr fun i hi h0 => hy.done i (by omega) h0
    · exact .inr h⟩
noncomputable def connB (m : Mach) : Bool := @decide (∀ t, t < m.rows.length → Reach m 0 t) (Classical.propDecidable _)
theorem zqv {m : Mach} {Y : List Bool} (hl : Y.length = m.rows.length) (h : ∀ t, t < m.rows.length → (Y.getD t default = true ↔ Reach m 0 t)) : connB m = !Y.contains false := by
  unfold connB
  cases hc : Y.contains false
  · refine (@decide_eq_true _ (Classical.propDecidable _) ?_).trans rfl
    intro t ht
    rw [← h t ht]
    cases hy : Y.getD t default with
    | true => rfl
    | false =>
      have : Y.contains false = true := by
        rw [List.contains_iff_mem, ← hy]; exact sj (by omega)
      rw [hc] at this; cases this
  · refine (@decide_eq_false _ (Classical.propDecidable _) ?_).trans rfl
    intro hall
    rw [List.contains_iff_mem] at hc
    obtain ⟨k, hk, he⟩ := List.getElem_of_mem hc
    have := (h k (by omega)).2 (hall k (by omega))
    simp only [List.getD_eq_getElem?_getD, List.getElem?_eq_getElem hk, Option.getD_some, he] at this
    cases this
theorem zr9 {m : Mach} (hm : MOk m) {n : Nat} (hn : n = m.rows.length) {Y : List Bool} (h : Vis m (List.replicate n false) 0 Y) : connB m = !Y.contains false := by
  have hr := hm.r1
  have hx : ∀ t, (List.replicate n false).getD t default = false := fun t => by
    simp only [List.getD_eq_getElem?_getD, List.getElem?_replicate]; split <;> rfl
  have hcl : ∀ t, t < m.rows.length → Y.getD t default = true → Closed m Y t := fun t ht hy => (h.closed t ht hy).resolve_left (by rw [hx]; simp)
  refine zqv (by rw [h.len]; simp [hn]) fun t ht => ⟨fun hy => ?_, fun hre => ?_⟩
  · exact ((h.reach t hy).resolve_left (by rw [hx]; simp)).2
  · clear ht
    have key : ∀ t, Reach m 0 t → Y.getD t default = true ∧ t < m.rows.length := by
      intro t ht
      refine ⟨?_, ht.lt hm (by omega)⟩
      induction ht with
      | refl => exact h.here (Int.le_refl _)
      | step h1 h2 h3 h4 ih => exact hcl _ h2 ih _ h3 h4
    exact (key t hre).1
theorem zj9 (Y : List Bool) : (Y.any fun x => decide (false = x)) = Y.contains false := by
  rw [Bool.eq_iff_iff, List.any_eq_true, List.contains_iff_mem]
  exact ⟨fun ⟨x, hx, h⟩ => by rw [of_decide_eq_true h]; exact hx, fun h => ⟨false, h, rfl⟩⟩
theorem zl0 {P : Nat → Prop} {k : Nat} (h : ∀ j, j < k → P j) (hk : P k) : ∀ j, j < k + 1 → P j := fun j hj => by
  rcases Nat.lt_succ_iff_lt_or_eq.1 hj with h1 | rfl
  · exact h j h1
  · exact hk
theorem Small.mem {m : Mach} (h : Small m) {r : List Edge} (hr : r ∈ m.rows) : r.length ≤ 100 := by
  obtain ⟨k, hk, rfl⟩ := List.getElem_of_mem hr
  have := h.c k hk
  simpa [List.getD_eq_getElem?_getD, hk] using this
theorem zpz {m : Mach} {x : Edge} (h : (x.to = -1 ∧ x.out = -1) ∨ (0 ≤ x.to ∧ x.to < m.rows.length ∧ 0 ≤ x.out ∧ x.out < m.outputs)) : (!zcd m x) = false := by rw [(ze3 m x).2 h]; rfl
theorem zu9 {m : Mach} {x : Edge} (h : ¬ ((x.to = -1 ∧ x.out = -1) ∨ (0 ≤ x.to ∧ x.to < m.rows.length ∧ 0 ≤ x.out ∧ x.out < m.outputs))) : (!zcd m x) = true := by
  cases hf : zcd m x
  · rfl
  · exact absurd ((ze3 m x).1 hf) h
def z9d (m : Mach) : Bool := decide ((zt7 m : Int) = m.rows.length * m.inputs)
def zus (m : Mach) (Y : List Bool) : Prop := ∀ t, t < m.rows.length → Y.getD t default = true → Closed m Y t
structure RInv (m : Mach) (a : Nat) (r : Nat) (Y : List Bool) : Prop where
  len : Y.length = m.rows.length
  sound : ∀ t, Y.getD t default = true → Reach m a t
  start : Y.getD a default = true
  prog : zus m Y ∨ r < Y.count true
structure RPass (m : Mach) (a : Nat) (Y0 : List Bool) (s i : Nat) (Y : List Bool) : Prop where
  len : Y.length = m.rows.length
  sound : ∀ t, Y.getD t default = true → Reach m a t
  start : Y.getD a default = true
  fix : zus m Y0 → Y = Y0
  prog : Y0.count true < Y.count true ∨ (Y = Y0 ∧ ∀ t, t < m.rows.length → Y.getD t default = true → ∀ j, (t < s ∨ (t = s ∧ j < i)) → j < (m.rows.getD t default).length → 0 ≤ ((m.rows.getD t default).getD j default).to → Y.getD ((m.rows.getD t default).getD j default).to.toNat default = true)
theorem zrh {Y : List Bool} {t : Nat} (h : Y.getD t default = true) (ht : t < Y.length) : Y.set t true = Y := by
  refine zdd (by simp) fun k hk => ?_
  rw [z4v ht]
  by_cases e : k = t
  · subst e; rw [if_pos rfl, h]
  · rw [if_neg e]
theorem zbt : ∀ {X : List Bool} {s : Nat}, s < X.length → X.getD s default = false → (X.set s true).count true = X.count true + 1
  | x :: X, 0, _, h => by
    have : x = false := by simpa using h
    subst this
    simp
  | x :: X, s + 1, hs, h => by
    have := zbt (X := X) (s := s) (by simpa using hs) (by simpa using h)
    rw [List.set_cons_succ, List.count_cons, List.count_cons]; omega
theorem znf {m : Mach} {a r : Nat} {Y : List Bool} (h : RInv m a r Y) : RPass m a Y 0 0 Y :=
  ⟨h.len, h.sound, h.start, fun _ => rfl, .inr ⟨rfl, fun t _ _ j hj => by omega⟩⟩
theorem zmz {m : Mach} {a s i : Nat} {Y0 Y : List Bool} (h : RPass m a Y0 s i Y) (hn : ¬ (Y.getD s default = true ∧ 0 ≤ ((m.rows.getD s default).getD i default).to)) : RPass m a Y0 s (i + 1) Y := by
  refine ⟨h.len, h.sound, h.start, h.fix, h.prog.imp id fun ⟨e, hp⟩ => ⟨e, fun t ht hy j hj hjl h0 => ?_⟩⟩
  by_cases e : t = s ∧ j = i
  · obtain ⟨rfl, rfl⟩ := e; exact absurd ⟨hy, h0⟩ hn
  · exact hp t ht hy j (by omega) hjl h0
theorem zpm {m : Mach} {a s i : Nat} {Y0 Y : List Bool} (hm : MOk m) (h : RPass m a Y0 s i Y) (hs : s < m.rows.length) (hi : i < (m.rows.getD s default).length) (hy : Y.getD s default = true) (h0 : 0 ≤ ((m.rows.getD s default).getD i default).to) :
    RPass m a Y0 s (i + 1) (Y.set ((m.rows.getD s default).getD i default).to.toNat true) := by
  have hl : ((m.rows.getD s default).getD i default).to.toNat < Y.length := by
    rw [h.len]; rcases hm.edge s i hs hi with h | h <;> omega
  cases hv : Y.getD ((m.rows.getD s default).getD i default).to.toNat default with
  | true =>
    rw [zrh hv hl]
    refine ⟨h.len, h.sound, h.start, h.fix, h.prog.imp id fun ⟨e, hp⟩ => ⟨e, fun t ht hy' j hj hjl h0' => ?_⟩⟩
    by_cases e : t = s ∧ j = i
    · obtain ⟨rfl, rfl⟩ := e; exact hv
    · exact hp t ht hy' j (by omega) hjl h0'
  | false =>
    have hg := fun t => z4v (t := t) hl
    refine ⟨by simp [h.len], fun t ht => ?_, by rw [hg]; split; rfl; exact h.start, fun hc => ?_, .inl ?_⟩
    · rw [hg] at ht
      by_cases e : t = ((m.rows.getD s default).getD i default).to.toNat
      · subst e; exact .step (h.sound _ hy) hs hi h0
      · rw [if_neg e] at ht; exact h.sound t ht
    · have e := h.fix hc
      subst e
      have := hc s hs hy i hi h0
      rw [hv] at this; cases this
    · rw [zbt hl hv]
      rcases h.prog with h1 | ⟨h1, _⟩
      · omega
      · subst h1; omega
theorem zr0 {m : Mach} {a s i : Nat} {Y0 Y : List Bool} (h : RPass m a Y0 s i Y) (hi : (m.rows.getD s default).length ≤ i) : RPass m a Y0 (s + 1) 0 Y :=
  ⟨h.len, h.sound, h.start, h.fix, h.prog.imp id fun ⟨e, hp⟩ => ⟨e, fun t ht hy j hj hjl h0 => hp t ht hy j (by
    rcases hj with hj | hj
    · by_cases e : t = s
      · subst e; exact .inr ⟨rfl, by omega⟩
      · exact .inl (by omega)
    · omega) hjl h0⟩⟩
theorem zqp {m : Mach} {a s r : Nat} {Y0 Y : List Bool} (h : RPass m a Y0 s 0 Y) (hs : m.rows.length ≤ s) (h0 : RInv m a r Y0) : RInv m a (r + 1) Y := by
  refine ⟨h.len, h.sound, h.start, ?_⟩
  rcases h0.prog with hc | hc
  · rw [h.fix hc]; exact .inl hc
  · rcases h.prog with h1 | ⟨_, hp⟩
    · exact .inr (by omega)
    · exact .inl fun t ht hy j hj h0 => hp t ht hy j (.inl (by omega)) hj h0
theorem zdg {m : Mach} {a : Nat} (ha : a < m.rows.length) : RInv m a 0 ((List.replicate m.rows.length false).set a true) := by
  have hl : a < (List.replicate m.rows.length false).length := by simpa using ha
  have hx : ∀ t, (List.replicate m.rows.length false).getD t default = false := fun t => by
    simp only [List.getD_eq_getElem?_getD, List.getElem?_replicate]; split <;> rfl
  have hg := fun t => z4v (t := t) hl
  refine ⟨by simp, fun t ht => ?_, by rw [hg, if_pos rfl], .inr (by rw [zbt hl (hx a)]; omega)⟩
  rw [hg, hx] at ht
  by_cases e : t = a
  · subst e; exact .refl
  · rw [if_neg e] at ht; cases ht
noncomputable def reachL (m : Mach) (a : Nat) : List Bool := (List.range m.rows.length).map fun t => @decide (Reach m a t) (Classical.propDecidable _)
theorem z6u {m : Mach} {a t : Nat} (ht : t < m.rows.length) : (reachL m a).getD t default = true ↔ Reach m a t := by
  unfold reachL
  simp only [List.getD_eq_getElem?_getD, List.getElem?_map, List.getElem?_range ht, Option.map_some, Option.getD_some]
  exact ⟨fun h => @of_decide_eq_true _ (Classical.propDecidable _) h, fun h => @decide_eq_true _ (Classical.propDecidable _) h⟩
theorem z2c (m : Mach) (a : Nat) : (reachL m a).length = m.rows.length := by simp [reachL]
theorem zji {m : Mach} {a r : Nat} {Y : List Bool} (hm : MOk m) (ha : a < m.rows.length) (h : RInv m a r Y) (hr : m.rows.length ≤ r) : Y = reachL m a := by
  have hc : zus m Y := h.prog.resolve_right (by have := List.count_le_length (a := true) (l := Y); rw [h.len] at this; omega)
  have key : ∀ t, Reach m a t → Y.getD t default = true := by
    intro t ht
    induction ht with
    | refl => exact h.start
    | step h1 h2 h3 h4 ih => exact hc _ h2 ih _ h3 h4
  refine zdd (by rw [h.len, z2c]) fun k hk => ?_
  rw [Bool.eq_iff_iff, z6u (by rw [← h.len]; exact hk)]
  exact ⟨h.sound k, key k⟩
theorem ztk {m : Mach} (h : ∀ j, j < m.rows.length → (reachL m 0).getD j default = true) : connB m = true := by
  unfold connB
  exact @decide_eq_true _ (Classical.propDecidable _) fun t ht => (z6u ht).1 (h t ht)
theorem zte {m : Mach} {j : Nat} (hj : j < m.rows.length) (h : (reachL m 0).getD j default = false) : connB m = false := by
  unfold connB
  refine @decide_eq_false _ (Classical.propDecidable _) fun hall => ?_
  rw [(z6u hj).2 (hall j hj)] at h; cases h
theorem zbm {α : Type} (f : Nat → α) (k : Nat) : (List.range (k + 1)).map f = (List.range k).map f ++ [f k] := by rw [List.range_succ, List.map_append]; rfl
end GV
end Go.Proofs.Ytplgbkaollfmkaa
