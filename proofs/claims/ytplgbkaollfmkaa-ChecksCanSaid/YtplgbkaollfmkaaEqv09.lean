import Derived.Test.YtplgbkaollfmkaaBfs06
import Derived.Test.YtplgbkaollfmkaaNames
set_option linter.unusedVariables false
set_option linter.unusedSimpArgs false
namespace Go.Proofs.Ytplgbkaollfmkaa
namespace GV
def ou (m : Mach) (s i : Nat) : Int := ((m.rows.getD s default).getD i default).out
def z97 (m : Mach) (p : Nat → Nat) (s : Nat) : List (Int × Int) := (List.range m.inputs.toNat).map fun i => (ou m s i, if ed m s i = -1 then -1 else (p (ed m s i).toNat : Int))
def ziv (m : Mach) (p : Nat → Nat) (s : Nat) : Nat × List (Int × Int) := (p s, z97 m p s)
def pkc (m : Mach) : Nat → Nat → Nat
  | 0 => fun _ => 0
  | k + 1 => fun s => name (ziv m (pkc m k)) s
def pL (m : Mach) (k : Nat) : List Int := (List.range m.rows.length).map fun s => (pkc m k s : Int)
section
variable {m : Mach}
theorem zil (k : Nat) : (pL m k).length = m.rows.length := by simp [pL]
theorem zmt {k s : Nat} (h : s < m.rows.length) : (pL m k).getD s default = (pkc m k s : Int) := by simp [pL, List.getD_eq_getElem?_getD, h]
theorem ztj (k : Nat) : pL m (k + 1) = zoo (ziv m (pkc m k)) m.rows.length := rfl
theorem ztc {p : Nat → Nat} {s t : Nat} : z97 m p s = z97 m p t ↔ ∀ i, i < m.inputs.toNat → ou m s i = ou m t i ∧ (if ed m s i = -1 then -1 else (p (ed m s i).toNat : Int)) = (if ed m t i = -1 then -1 else (p (ed m t i).toNat : Int)) := by
  unfold z97
  rw [List.map_inj_left]
  constructor
  · intro h i hi
    have := h i (List.mem_range.2 hi)
    exact ⟨congrArg Prod.fst this, congrArg Prod.snd this⟩
  · intro h i hi
    obtain ⟨h1, h2⟩ := h i (List.mem_range.1 hi)
    exact Prod.ext h1 h2
theorem ztr (hm : MOk m) {s i : Nat} (hs : s < m.rows.length) (hi : i < m.inputs.toNat) : (ed m s i = -1 ↔ ou m s i = -1) ∧ -1 ≤ ou m s i ∧ ou m s i < 16 := by
  have h1 := hm.row s hs
  have h2 := hm.o2
  rcases hm.edge s i hs (by omega) with h | h
  · exact ⟨⟨fun _ => h.2, fun _ => h.1⟩, by show -1 ≤ ((m.rows.getD s default).getD i default).out; omega, by show ((m.rows.getD s default).getD i default).out < 16; omega⟩
  · refine ⟨⟨fun e => ?_, fun e => ?_⟩, ?_, ?_⟩
    · have : ((m.rows.getD s default).getD i default).to = -1 := e
      omega
    · have : ((m.rows.getD s default).getD i default).out = -1 := e
      omega
    · show -1 ≤ ((m.rows.getD s default).getD i default).out; omega
    · show ((m.rows.getD s default).getD i default).out < 16; omega
theorem zkl {k s t : Nat} : pkc m (k + 1) s = pkc m (k + 1) t ↔ pkc m k s = pkc m k t ∧ z97 m (pkc m k) s = z97 m (pkc m k) t := by
  show name _ s = name _ t ↔ _
  rw [zd7]
  unfold ziv
  rw [Prod.mk.injEq]
theorem zqs (hm : MOk m) {k s t : Nat} (hs : s < m.rows.length) (ht : t < m.rows.length) : pkc m (k + 1) s = pkc m (k + 1) t ↔ pkc m k s = pkc m k t ∧ ∀ i, i < m.inputs.toNat → ou m s i = ou m t i ∧ (ed m s i ≠ -1 → ed m t i ≠ -1 → pkc m k (ed m s i).toNat = pkc m k (ed m t i).toNat) := by
  rw [zkl, ztc]
  refine and_congr_right fun _ => forall_congr' fun i => forall_congr' fun hi => ?_
  refine and_congr_right fun ho => ?_
  have h1 := (ztr hm hs hi).1
  have h2 := (ztr hm ht hi).1
  by_cases e : ed m s i = -1
  · have e2 : ed m t i = -1 := h2.2 (by rw [← ho]; exact h1.1 e)
    rw [if_pos e, if_pos e2]
    exact ⟨fun _ h => absurd e h, fun _ => rfl⟩
  · have e2 : ed m t i ≠ -1 := fun e2 => e (h1.2 (by rw [ho]; exact h2.1 e2))
    rw [if_neg e, if_neg e2]
    exact ⟨fun h _ _ => Int.ofNat.inj h, fun h => congrArg Int.ofNat (h e e2)⟩
theorem zcf {k s t : Nat} (h : pkc m (k + 1) s = pkc m (k + 1) t) : pkc m k s = pkc m k t := (zkl.1 h).1
def zep (m : Mach) (k : Nat) : Prop := ∀ s t, s < m.rows.length → t < m.rows.length → pkc m k s = pkc m k t → pkc m (k + 1) s = pkc m (k + 1) t
theorem zc8 {k s : Nat} : name (pkc m k) s = pkc m k s := by
  cases k with
  | zero =>
    show name (fun _ : Nat => (0 : Nat)) s = 0
    rw [show name (fun _ : Nat => (0 : Nat)) s = name (fun _ : Nat => (0 : Nat)) 0 from zd7.2 rfl, zhd]
  | succ k => exact z9a (n := s + 1) (fun a b _ _ => by show name _ a = name _ b ↔ _; exact zd7) (Nat.lt_succ_self s)
theorem zi1 {k : Nat} (h : zep m k) {s : Nat} (hs : s < m.rows.length) : pkc m (k + 1) s = pkc m k s := by
  rw [← zc8 (k := k + 1), ← zc8 (k := k)]
  exact z9a (n := m.rows.length) (fun a b ha hb => ⟨zcf, h a b ha hb⟩) hs
theorem zjc (k : Nat) : pL m (k + 1) = pL m k ↔ zep m k := by
  constructor
  · intro h s t hs ht e
    have e1 : ∀ s, s < m.rows.length → pkc m (k + 1) s = pkc m k s := fun s hs => by
      have := congrArg (fun l : List Int => l.getD s default) h
      simp only [zmt hs] at this
      omega
    rw [e1 s hs, e1 t ht, e]
  · intro h
    unfold pL
    exact List.map_congr_left fun s hs => by rw [zi1 h (List.mem_range.1 hs)]
theorem zi4 (hm : MOk m) {p q : Nat → Nat} (h : ∀ s, s < m.rows.length → p s = q s) {s : Nat} (hs : s < m.rows.length) : z97 m p s = z97 m q s := by
  unfold z97
  refine List.map_congr_left fun i hi => ?_
  rcases zc3 hm hs (List.mem_range.1 hi) with h1 | h1
  · rw [if_pos h1, if_pos h1]
  · rw [h _ (by omega)]
theorem zi2 (hm : MOk m) {k : Nat} (h : zep m k) : ∀ j, k ≤ j → ∀ s, s < m.rows.length → pkc m j s = pkc m k s
  | 0, hj, s, hs => by rw [show k = 0 by omega]
  | j + 1, hj, s, hs => by
    by_cases e : k = j + 1
    · rw [e]
    · have ih := zi2 hm h j (by omega)
      rw [← zi1 h hs]
      show name _ s = name _ s
      refine z9a (n := m.rows.length) (fun a b ha hb => ?_) hs
      unfold ziv
      rw [ih a ha, ih b hb, zi4 hm ih ha, zi4 hm ih hb]
theorem zss (hm : MOk m) {k j : Nat} (h : zep m k) (hj : k ≤ j) : pL m j = pL m k := by
  unfold pL
  exact List.map_congr_left fun s hs => by rw [zi2 hm h j hj s (List.mem_range.1 hs)]
theorem zkd {κ κ' : Type} [DecidableEq κ] [DecidableEq κ'] {f : Nat → κ} {g : Nat → κ'} : ∀ {n : Nat}, (∀ u, u < n → z2n f u = true → z2n g u = true) → cntF f n ≤ cntF g n ∧ (cntF f n = cntF g n → ∀ u, u < n → z2n f u = z2n g u)
  | 0, _ => ⟨Nat.le_refl _, fun _ u hu => by omega⟩
  | n + 1, h => by
    obtain ⟨h1, h2⟩ := zkd (n := n) (f := f) (g := g) fun u hu => h u (by omega)
    have hn := h n (by omega)
    have e1 : cntF f (n + 1) = cntF f n + if z2n f n = true then 1 else 0 := rfl
    have e2 : cntF g (n + 1) = cntF g n + if z2n g n = true then 1 else 0 := rfl
    cases hf : z2n f n <;> cases hg : z2n g n
    · rw [hf] at e1; rw [hg] at e2
      simp only [Bool.false_eq_true, if_false] at e1 e2
      refine ⟨by omega, fun e u hu => ?_⟩
      by_cases hu' : u = n
      · subst hu'; rw [hf, hg]
      · exact h2 (by omega) u (by omega)
    · rw [hf] at e1; rw [hg] at e2
      simp only [Bool.false_eq_true, if_false, if_true] at e1 e2
      exact ⟨by omega, fun e => by omega⟩
    · rw [hf, hg] at hn; exact absurd (hn rfl) (by decide)
    · rw [hf] at e1; rw [hg] at e2
      simp only [if_true] at e1 e2
      refine ⟨by omega, fun e u hu => ?_⟩
      by_cases hu' : u = n
      · subst hu'; rw [hf, hg]
      · exact h2 (by omega) u (by omega)
theorem zjb {k : Nat} (h : ¬ zep m k) : cntF (pkc m k) m.rows.length < cntF (pkc m (k + 1)) m.rows.length := by
  obtain ⟨h1, h2⟩ := zkd (n := m.rows.length) (f := pkc m k) (g := pkc m (k + 1)) fun u hu hf => l6.2 fun t ht e => l6.1 hf t ht (zcf e)
  rcases Nat.lt_or_ge (cntF (pkc m k) m.rows.length) (cntF (pkc m (k + 1)) m.rows.length) with h3 | h3
  · exact h3
  · exfalso
    have h4 := h2 (by omega)
    refine h fun s t hs ht e => ?_
    obtain ⟨a1, a2, _⟩ := z2s (pkc m (k + 1)) s
    obtain ⟨b1, b2, _⟩ := z2s (pkc m (k + 1)) t
    have a3 := z8b (pkc m (k + 1)) s
    have b3 := z8b (pkc m (k + 1)) t
    rw [← h4 _ (by omega)] at a3 b3
    have e1 : pkc m k (z7d (pkc m (k + 1)) s) = pkc m k (z7d (pkc m (k + 1)) t) := by rw [zcf a2, zcf b2, e]
    have e2 : z7d (pkc m (k + 1)) s = z7d (pkc m (k + 1)) t := by
      rw [← zco a3, ← zco b3]; exact zki e1
    rw [← a2, e2, b2]
theorem zf8 (hr : 1 ≤ m.rows.length) : ∀ k, (∀ j, j < k → ¬ zep m j) → k + 1 ≤ cntF (pkc m k) m.rows.length
  | 0, _ => by
    have := zf0 (pkc m 0) (show 0 < m.rows.length by omega) (l6.2 fun t ht => by omega)
    omega
  | k + 1, h => by
    have h1 := zf8 hr k fun j hj => h j (by omega)
    have h2 := zjb (h k (by omega))
    omega
theorem zhq {p : Nat → Prop} : ∀ n, p n → ∃ k, k ≤ n ∧ p k ∧ ∀ j, j < k → ¬ p j
  | n, h => by
    by_cases e : ∃ j, j < n ∧ p j
    · obtain ⟨j, hj, hp⟩ := e
      obtain ⟨k, h1, h2, h3⟩ := zhq j hp
      exact ⟨k, by omega, h2, h3⟩
    · exact ⟨n, Nat.le_refl _, h, fun j hj hp => e ⟨j, hj, hp⟩⟩
theorem ztf (hm : MOk m) : ∃ k, k < m.rows.length ∧ zep m k ∧ ∀ j, j < k → ¬ zep m j := by
  have hr := hm.r1
  have h1 : ∃ k, k < m.rows.length ∧ zep m k := by
    refine Classical.byContradiction fun hn => ?_
    have := zf8 hr m.rows.length fun j hj hs => hn ⟨j, hj, hs⟩
    have := zet (pkc m m.rows.length) m.rows.length
    omega
  obtain ⟨n, hn, hs⟩ := h1
  obtain ⟨k, h2, h3, h4⟩ := zhq n hs
  exact ⟨k, by omega, h3, h4⟩
def cls (m : Mach) (s : Nat) : Nat := pkc m m.rows.length s
def z8c (m : Mach) : List Int := pL m m.rows.length
/-! ### Responses -/
theorem zge (m : Mach) : ∀ w : List Int, oh m (-1) w = List.replicate w.length (-1)
  | [] => rfl
  | c :: w => by
    show (ll m (-1) c).out :: oh m (ll m (-1) c).to w = _
    rw [show ll m (-1) c = ⟨-1, -1⟩ from rfl, zge m w]; rfl
theorem zhy {s : Nat} (i : Nat) (w : List Int) : oh m (s : Int) ((i : Int) :: w) = ou m s i :: oh m (ed m s i) w := by
  show (ll m (s : Int) (i : Int)).out :: oh m (ll m (s : Int) (i : Int)).to w = _
  unfold ll
  rw [if_neg (by omega)]; rfl
theorem zhf {s : Nat} (i : Nat) (w : List Int) : lq m (s : Int) ((i : Int) :: w) = lq m (ed m s i) w := by
  show lq m (ll m (s : Int) (i : Int)).to w = _
  unfold ll
  rw [if_neg (by omega)]; rfl
end
end GV
end Go.Proofs.Ytplgbkaollfmkaa
