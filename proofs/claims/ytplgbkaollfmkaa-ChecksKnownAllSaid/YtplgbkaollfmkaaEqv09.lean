import Derived.Test.YtplgbkaollfmkaaBfs06
import Derived.Test.YtplgbkaollfmkaaNames
set_option linter.unusedVariables false
set_option linter.unusedSimpArgs false
namespace Go.Proofs.Ytplgbkaollfmkaa
namespace GV
def ou (m : Mach) (s i : Nat) : Int := ((m.rows.getD s default).getD i default).out
def z7m (m : Mach) (p : Nat → Nat) (s : Nat) : List (Int × Int) := (List.range m.inputs.toNat).map fun i => (ou m s i, if ed m s i = -1 then -1 else (p (ed m s i).toNat : Int))
def zf3 (m : Mach) (p : Nat → Nat) (s : Nat) : Nat × List (Int × Int) := (p s, z7m m p s)
def pkc (m : Mach) : Nat → Nat → Nat
  | 0 => fun _ => 0
  | k + 1 => fun s => name (zf3 m (pkc m k)) s
def pL (m : Mach) (k : Nat) : List Int := (List.range m.rows.length).map fun s => (pkc m k s : Int)
section
variable {m : Mach}
theorem zfw (k : Nat) : (pL m k).length = m.rows.length := by simp [pL]
theorem zi0 {k s : Nat} (h : s < m.rows.length) : (pL m k).getD s default = (pkc m k s : Int) := by simp [pL, List.getD_eq_getElem?_getD, h]
theorem zpm (k : Nat) : pL m (k + 1) = zk8 (zf3 m (pkc m k)) m.rows.length := rfl
theorem znp {k s t : Nat} : pkc m (k + 1) s = pkc m (k + 1) t ↔ pkc m k s = pkc m k t ∧ z7m m (pkc m k) s = z7m m (pkc m k) t := by
  show name _ s = name _ t ↔ _
  rw [z9o]
  unfold zf3
  rw [Prod.mk.injEq]
theorem z99 {k s t : Nat} (h : pkc m (k + 1) s = pkc m (k + 1) t) : pkc m k s = pkc m k t := (znp.1 h).1
def zb6 (m : Mach) (k : Nat) : Prop := ∀ s t, s < m.rows.length → t < m.rows.length → pkc m k s = pkc m k t → pkc m (k + 1) s = pkc m (k + 1) t
theorem zc3 {k s : Nat} : name (pkc m k) s = pkc m k s := by
  cases k with
  | zero =>
    show name (fun _ : Nat => (0 : Nat)) s = 0
    rw [show name (fun _ : Nat => (0 : Nat)) s = name (fun _ : Nat => (0 : Nat)) 0 from z9o.2 rfl, zex]
  | succ k => exact z5d (n := s + 1) (fun a b _ _ => by show name _ a = name _ b ↔ _; exact z9o) (Nat.lt_succ_self s)
theorem ze4 {k : Nat} (h : zb6 m k) {s : Nat} (hs : s < m.rows.length) : pkc m (k + 1) s = pkc m k s := by
  rw [← zc3 (k := k + 1), ← zc3 (k := k)]
  exact z5d (n := m.rows.length) (fun a b ha hb => ⟨z99, h a b ha hb⟩) hs
theorem zgd (k : Nat) : pL m (k + 1) = pL m k ↔ zb6 m k := by
  constructor
  · intro h s t hs ht e
    have e1 : ∀ s, s < m.rows.length → pkc m (k + 1) s = pkc m k s := fun s hs => by
      have := congrArg (fun l : List Int => l.getD s default) h
      simp only [zi0 hs] at this
      omega
    rw [e1 s hs, e1 t ht, e]
  · intro h
    unfold pL
    exact List.map_congr_left fun s hs => by rw [ze4 h (List.mem_range.1 hs)]
theorem zej (hm : MOk m) {p q : Nat → Nat} (h : ∀ s, s < m.rows.length → p s = q s) {s : Nat} (hs : s < m.rows.length) : z7m m p s = z7m m q s := by
  unfold z7m
  refine List.map_congr_left fun i hi => ?_
  rcases zho hm hs (List.mem_range.1 hi) with h1 | h1
  · rw [if_pos h1, if_pos h1]
  · rw [h _ (by omega)]
theorem zei (hm : MOk m) {k : Nat} (h : zb6 m k) : ∀ j, k ≤ j → ∀ s, s < m.rows.length → pkc m j s = pkc m k s
  | 0, hj, s, hs => by rw [show k = 0 by omega]
  | j + 1, hj, s, hs => by
    by_cases e : k = j + 1
    · rw [e]
    · have ih := zei hm h j (by omega)
      rw [← ze4 h hs]
      show name _ s = name _ s
      refine z5d (n := m.rows.length) (fun a b ha hb => ?_) hs
      unfold zf3
      rw [ih a ha, ih b hb, zej hm ih ha, zej hm ih hb]
theorem zq2 (hm : MOk m) {k j : Nat} (h : zb6 m k) (hj : k ≤ j) : pL m j = pL m k := by
  unfold pL
  exact List.map_congr_left fun s hs => by rw [zei hm h j hj s (List.mem_range.1 hs)]
theorem zhg {κ κ' : Type} [DecidableEq κ] [DecidableEq κ'] {f : Nat → κ} {g : Nat → κ'} : ∀ {n : Nat}, (∀ u, u < n → z1v f u = true → z1v g u = true) → cntF f n ≤ cntF g n ∧ (cntF f n = cntF g n → ∀ u, u < n → z1v f u = z1v g u)
  | 0, _ => ⟨Nat.le_refl _, fun _ u hu => by omega⟩
  | n + 1, h => by
    obtain ⟨h1, h2⟩ := zhg (n := n) (f := f) (g := g) fun u hu => h u (by omega)
    have hn := h n (by omega)
    have e1 : cntF f (n + 1) = cntF f n + if z1v f n = true then 1 else 0 := rfl
    have e2 : cntF g (n + 1) = cntF g n + if z1v g n = true then 1 else 0 := rfl
    cases hf : z1v f n <;> cases hg : z1v g n
    · rw [hf] at e1; rw [hg] at e2
      simp only [Bool.false_eq_true, if_false] at e1 e2
      refine ⟨by omega, fun e u hu => ?_⟩
      by_cases hu' : u = n
      · subst hu'; rw [hf, hg]
      · exact h2 (by omega) u (by omega)
    · rw [hf] at e1; rw [hg] at e2
      simp only [Bool.false_eq_true, if_false, if_true] at e1 e2
      exact ⟨by omega, fun e => by omega⟩
    · rw [hf, hg] at hn; exact absurd (hn rfl) (by decide)
    · rw [hf] at e1; rw [hg] at e2
      simp only [if_true] at e1 e2
      refine ⟨by omega, fun e u hu => ?_⟩
      by_cases hu' : u = n
      · subst hu'; rw [hf, hg]
      · exact h2 (by omega) u (by omega)
theorem zfy {k : Nat} (h : ¬ zb6 m k) : cntF (pkc m k) m.rows.length < cntF (pkc m (k + 1)) m.rows.length := by
  obtain ⟨h1, h2⟩ := zhg (n := m.rows.length) (f := pkc m k) (g := pkc m (k + 1)) fun u hu hf => rz.2 fun t ht e => rz.1 hf t ht (z99 e)
  rcases Nat.lt_or_ge (cntF (pkc m k) m.rows.length) (cntF (pkc m (k + 1)) m.rows.length) with h3 | h3
  · exact h3
  · exfalso
    have h4 := h2 (by omega)
    refine h fun s t hs ht e => ?_
    obtain ⟨a1, a2, _⟩ := z0b (pkc m (k + 1)) s
    obtain ⟨b1, b2, _⟩ := z0b (pkc m (k + 1)) t
    have a3 := z5a (pkc m (k + 1)) s
    have b3 := z5a (pkc m (k + 1)) t
    rw [← h4 _ (by omega)] at a3 b3
    have e1 : pkc m k (z3t (pkc m (k + 1)) s) = pkc m k (z3t (pkc m (k + 1)) t) := by rw [z99 a2, z99 b2, e]
    have e2 : z3t (pkc m (k + 1)) s = z3t (pkc m (k + 1)) t := by
      rw [← za5 a3, ← za5 b3]; exact zhl e1
    rw [← a2, e2, b2]
theorem zct (hr : 1 ≤ m.rows.length) : ∀ k, (∀ j, j < k → ¬ zb6 m j) → k + 1 ≤ cntF (pkc m k) m.rows.length
  | 0, _ => by
    have := zbt (pkc m 0) (show 0 < m.rows.length by omega) (rz.2 fun t ht => by omega)
    omega
  | k + 1, h => by
    have h1 := zct hr k fun j hj => h j (by omega)
    have h2 := zfy (h k (by omega))
    omega
theorem zf0 {p : Nat → Prop} : ∀ n, p n → ∃ k, k ≤ n ∧ p k ∧ ∀ j, j < k → ¬ p j
  | n, h => by
    by_cases e : ∃ j, j < n ∧ p j
    · obtain ⟨j, hj, hp⟩ := e
      obtain ⟨k, h1, h2, h3⟩ := zf0 j hp
      exact ⟨k, by omega, h2, h3⟩
    · exact ⟨n, Nat.le_refl _, h, fun j hj hp => e ⟨j, hj, hp⟩⟩
theorem zpp (hm : MOk m) : ∃ k, k < m.rows.length ∧ zb6 m k ∧ ∀ j, j < k → ¬ zb6 m j := by
  have hr := hm.r1
  have h1 : ∃ k, k < m.rows.length ∧ zb6 m k := by
    refine Classical.byContradiction fun hn => ?_
    have := zct hr m.rows.length fun j hj hs => hn ⟨j, hj, hs⟩
    have := zjr (pkc m m.rows.length) m.rows.length
    omega
  obtain ⟨n, hn, hs⟩ := h1
  obtain ⟨k, h2, h3, h4⟩ := zf0 n hs
  exact ⟨k, by omega, h3, h4⟩
def cls (m : Mach) (s : Nat) : Nat := pkc m m.rows.length s
def zbe (m : Mach) : List Int := pL m m.rows.length
/-! ### Responses -/
theorem zcd (m : Mach) : ∀ w : List Int, z04 m (-1) w = List.replicate w.length (-1)
  | [] => rfl
  | c :: w => by
    show (aa m (-1) c).out :: z04 m (aa m (-1) c).to w = _
    rw [show aa m (-1) c = ⟨-1, -1⟩ from rfl, zcd m w]; rfl
theorem zf1 {s : Nat} (i : Nat) (w : List Int) : z04 m (s : Int) ((i : Int) :: w) = ou m s i :: z04 m (ed m s i) w := by
  show (aa m (s : Int) (i : Int)).out :: z04 m (aa m (s : Int) (i : Int)).to w = _
  unfold aa
  rw [if_neg (by omega)]; rfl
theorem zeq {s : Nat} (i : Nat) (w : List Int) : xe m (s : Int) ((i : Int) :: w) = xe m (ed m s i) w := by
  show xe m (aa m (s : Int) (i : Int)).to w = _
  unfold aa
  rw [if_neg (by omega)]; rfl
end
end GV
end Go.Proofs.Ytplgbkaollfmkaa
