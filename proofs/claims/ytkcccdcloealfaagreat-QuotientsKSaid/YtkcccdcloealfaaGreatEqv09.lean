import Derived.Test.YtkcccdcloealfaaGreatBfs06
import Derived.Test.YtkcccdcloealfaaGreatNames
set_option linter.unusedVariables false
set_option linter.unusedSimpArgs false
namespace Go.Proofs.YtkcccdcloealfaaGreat
namespace GV
def ou (m : Mach) (s i : Nat) : Int := ((m.rows.getD s default).getD i default).out
def zcc (m : Mach) (p : Nat → Nat) (s : Nat) : List (Int × Int) := (List.range m.inputs.toNat).map fun i => (ou m s i, if ed m s i = -1 then -1 else (p (ed m s i).toNat : Int))
def znj (m : Mach) (p : Nat → Nat) (s : Nat) : Nat × List (Int × Int) := (p s, zcc m p s)
def pkc (m : Mach) : Nat → Nat → Nat
  | 0 => fun _ => 0
  | k + 1 => fun s => name (znj m (pkc m k)) s
def pL (m : Mach) (k : Nat) : List Int := (List.range m.rows.length).map fun s => (pkc m k s : Int)
section
variable {m : Mach}
theorem zn2 (k : Nat) : (pL m k).length = m.rows.length := by simp [pL]
theorem zrq {k s : Nat} (h : s < m.rows.length) : (pL m k).getD s default = (pkc m k s : Int) := by simp [pL, List.getD_eq_getElem?_getD, h]
theorem zyy (k : Nat) : pL m (k + 1) = ztr (znj m (pkc m k)) m.rows.length := rfl
theorem zzh {p : Nat → Nat} {s t : Nat} : zcc m p s = zcc m p t ↔ ∀ i, i < m.inputs.toNat → ou m s i = ou m t i ∧ (if ed m s i = -1 then -1 else (p (ed m s i).toNat : Int)) = (if ed m t i = -1 then -1 else (p (ed m t i).toNat : Int)) := by
  unfold zcc
  rw [List.map_inj_left]
  constructor
  · intro h i hi
    have := h i (List.mem_range.2 hi)
    exact ⟨congrArg Prod.fst this, congrArg Prod.snd this⟩
  · intro h i hi
    obtain ⟨h1, h2⟩ := h i (List.mem_range.1 hi)
    exact Prod.ext h1 h2
theorem zgq (hm : MOk m) {s i : Nat} (hs : s < m.rows.length) (hi : i < m.inputs.toNat) : (ed m s i = -1 ↔ ou m s i = -1) ∧ -1 ≤ ou m s i ∧ ou m s i < 16 := by
  have h1 := hm.row s hs
  have h2 := hm.o2
  rcases hm.edge s i hs (by omega) with h | h
  · exact ⟨⟨fun _ => h.2, fun _ => h.1⟩, by show -1 ≤ ((m.rows.getD s default).getD i default).out; omega, by show ((m.rows.getD s default).getD i default).out < 16; omega⟩
  · refine ⟨⟨fun e => ?_, fun e => ?_⟩, ?_, ?_⟩
    · have : ((m.rows.getD s default).getD i default).to = -1 := e
      omega
    · have : ((m.rows.getD s default).getD i default).out = -1 := e
      omega
    · show -1 ≤ ((m.rows.getD s default).getD i default).out; omega
    · show ((m.rows.getD s default).getD i default).out < 16; omega
theorem zpx {k s t : Nat} : pkc m (k + 1) s = pkc m (k + 1) t ↔ pkc m k s = pkc m k t ∧ zcc m (pkc m k) s = zcc m (pkc m k) t := by
  show name _ s = name _ t ↔ _
  rw [zg8]
  unfold znj
  rw [Prod.mk.injEq]
theorem zjx (hm : MOk m) {k s t : Nat} (hs : s < m.rows.length) (ht : t < m.rows.length) : pkc m (k + 1) s = pkc m (k + 1) t ↔ pkc m k s = pkc m k t ∧ ∀ i, i < m.inputs.toNat → ou m s i = ou m t i ∧ (ed m s i ≠ -1 → ed m t i ≠ -1 → pkc m k (ed m s i).toNat = pkc m k (ed m t i).toNat) := by
  rw [zpx, zzh]
  refine and_congr_right fun _ => forall_congr' fun i => forall_congr' fun hi => ?_
  refine and_congr_right fun ho => ?_
  have h1 := (zgq hm hs hi).1
  have h2 := (zgq hm ht hi).1
  by_cases e : ed m s i = -1
  · have e2 : ed m t i = -1 := h2.2 (by rw [← ho]; exact h1.1 e)
    rw [if_pos e, if_pos e2]
    exact ⟨fun _ h => absurd e h, fun _ => rfl⟩
  · have e2 : ed m t i ≠ -1 := fun e2 => e (h1.2 (by rw [ho]; exact h2.1 e2))
    rw [if_neg e, if_neg e2]
    exact ⟨fun h _ _ => Int.ofNat.inj h, fun h => congrArg Int.ofNat (h e e2)⟩
theorem zg4 {k s t : Nat} (h : pkc m (k + 1) s = pkc m (k + 1) t) : pkc m k s = pkc m k t := (zpx.1 h).1
def zh0 (m : Mach) (k : Nat) : Prop := ∀ s t, s < m.rows.length → t < m.rows.length → pkc m k s = pkc m k t → pkc m (k + 1) s = pkc m (k + 1) t
theorem zfo {k s : Nat} : name (pkc m k) s = pkc m k s := by
  cases k with
  | zero =>
    show name (fun _ : Nat => (0 : Nat)) s = 0
    rw [show name (fun _ : Nat => (0 : Nat)) s = name (fun _ : Nat => (0 : Nat)) 0 from zg8.2 rfl, zm4]
  | succ k => exact z9j (n := s + 1) (fun a b _ _ => by show name _ a = name _ b ↔ _; exact zg8) (Nat.lt_succ_self s)
theorem zl4 {k : Nat} (h : zh0 m k) {s : Nat} (hs : s < m.rows.length) : pkc m (k + 1) s = pkc m k s := by
  rw [← zfo (k := k + 1), ← zfo (k := k)]
  exact z9j (n := m.rows.length) (fun a b ha hb => ⟨zg4, h a b ha hb⟩) hs
theorem zpd (k : Nat) : pL m (k + 1) = pL m k ↔ zh0 m k := by
  constructor
  · intro h s t hs ht e
    have e1 : ∀ s, s < m.rows.length → pkc m (k + 1) s = pkc m k s := fun s hs => by
      have := congrArg (fun l : List Int => l.getD s default) h
      simp only [zrq hs] at this
      omega
    rw [e1 s hs, e1 t ht, e]
  · intro h
    unfold pL
    exact List.map_congr_left fun s hs => by rw [zl4 h (List.mem_range.1 hs)]
theorem zl1 (hm : MOk m) {p q : Nat → Nat} (h : ∀ s, s < m.rows.length → p s = q s) {s : Nat} (hs : s < m.rows.length) : zcc m p s = zcc m q s := by
  unfold zcc
  refine List.map_congr_left fun i hi => ?_
  rcases z4h hm hs (List.mem_range.1 hi) with h1 | h1
  · rw [if_pos h1, if_pos h1]
  · rw [h _ (by omega)]
theorem z9c (hm : MOk m) {k : Nat} (h : zh0 m k) : ∀ j, k ≤ j → ∀ s, s < m.rows.length → pkc m j s = pkc m k s
  | 0, hj, s, hs => by rw [show k = 0 by omega]
  | j + 1, hj, s, hs => by
    by_cases e : k = j + 1
    · rw [e]
    · have ih := z9c hm h j (by omega)
      rw [← zl4 h hs]
      show name _ s = name _ s
      refine z9j (n := m.rows.length) (fun a b ha hb => ?_) hs
      unfold znj
      rw [ih a ha, ih b hb, zl1 hm ih ha, zl1 hm ih hb]
theorem zyt (hm : MOk m) {k j : Nat} (h : zh0 m k) (hj : k ≤ j) : pL m j = pL m k := by
  unfold pL
  exact List.map_congr_left fun s hs => by rw [z9c hm h j hj s (List.mem_range.1 hs)]
theorem zpe {κ κ' : Type} [DecidableEq κ] [DecidableEq κ'] {f : Nat → κ} {g : Nat → κ'} : ∀ {n : Nat}, (∀ u, u < n → z1a f u = true → z1a g u = true) → cntF f n ≤ cntF g n ∧ (cntF f n = cntF g n → ∀ u, u < n → z1a f u = z1a g u)
  | 0, _ => ⟨Nat.le_refl _, fun _ u hu => by omega⟩
  | n + 1, h => by
    obtain ⟨h1, h2⟩ := zpe (n := n) (f := f) (g := g) fun u hu => h u (by omega)
    have hn := h n (by omega)
    have e1 : cntF f (n + 1) = cntF f n + if z1a f n = true then 1 else 0 := rfl
    have e2 : cntF g (n + 1) = cntF g n + if z1a g n = true then 1 else 0 := rfl
    cases hf : z1a f n <;> cases hg : z1a g n
    · rw [hf] at e1; rw [hg] at e2
      simp only [Bool.false_eq_true, if_false] at e1 e2
      refine ⟨by omega, fun e u hu => ?_⟩
      by_cases hu' : u = n
      · subst hu'; rw [hf, hg]
      · exact h2 (by omega) u (by omega)
    · rw [hf] at e1; rw [hg] at e2
      simp only [Bool.false_eq_true, if_false, if_true] at e1 e2
      exact ⟨by omega, fun e => by omega⟩
    · rw [hf, hg] at hn; exact absurd (hn rfl) (by decide)
    · rw [hf] at e1; rw [hg] at e2
      simp only [if_true] at e1 e2
      refine ⟨by omega, fun e u hu => ?_⟩
      by_cases hu' : u = n
      · subst hu'; rw [hf, hg]
      · exact h2 (by omega) u (by omega)
theorem znq {k : Nat} (h : ¬ zh0 m k) : cntF (pkc m k) m.rows.length < cntF (pkc m (k + 1)) m.rows.length := by
  obtain ⟨h1, h2⟩ := zpe (n := m.rows.length) (f := pkc m k) (g := pkc m (k + 1)) fun u hu hf => av.2 fun t ht e => av.1 hf t ht (zg4 e)
  rcases Nat.lt_or_ge (cntF (pkc m k) m.rows.length) (cntF (pkc m (k + 1)) m.rows.length) with h3 | h3
  · exact h3
  · exfalso
    have h4 := h2 (by omega)
    refine h fun s t hs ht e => ?_
    obtain ⟨a1, a2, _⟩ := z3b (pkc m (k + 1)) s
    obtain ⟨b1, b2, _⟩ := z3b (pkc m (k + 1)) t
    have a3 := z6n (pkc m (k + 1)) s
    have b3 := z6n (pkc m (k + 1)) t
    rw [← h4 _ (by omega)] at a3 b3
    have e1 : pkc m k (z6h (pkc m (k + 1)) s) = pkc m k (z6h (pkc m (k + 1)) t) := by rw [zg4 a2, zg4 b2, e]
    have e2 : z6h (pkc m (k + 1)) s = z6h (pkc m (k + 1)) t := by
      rw [← zbm a3, ← zbm b3]; exact ziw e1
    rw [← a2, e2, b2]
theorem zkd (hr : 1 ≤ m.rows.length) : ∀ k, (∀ j, j < k → ¬ zh0 m j) → k + 1 ≤ cntF (pkc m k) m.rows.length
  | 0, _ => by
    have := z94 (pkc m 0) (show 0 < m.rows.length by omega) (av.2 fun t ht => by omega)
    omega
  | k + 1, h => by
    have h1 := zkd hr k fun j hj => h j (by omega)
    have h2 := znq (h k (by omega))
    omega
theorem zlm {p : Nat → Prop} : ∀ n, p n → ∃ k, k ≤ n ∧ p k ∧ ∀ j, j < k → ¬ p j
  | n, h => by
    by_cases e : ∃ j, j < n ∧ p j
    · obtain ⟨j, hj, hp⟩ := e
      obtain ⟨k, h1, h2, h3⟩ := zlm j hp
      exact ⟨k, by omega, h2, h3⟩
    · exact ⟨n, Nat.le_refl _, h, fun j hj hp => e ⟨j, hj, hp⟩⟩
theorem zt1 (hm : MOk m) : ∃ k, k < m.rows.length ∧ zh0 m k ∧ ∀ j, j < k → ¬ zh0 m j := by
  have hr := hm.r1
  have h1 : ∃ k, k < m.rows.length ∧ zh0 m k := by
    refine Classical.byContradiction fun hn => ?_
    have := zkd hr m.rows.length fun j hj hs => hn ⟨j, hj, hs⟩
    have := z88 (pkc m m.rows.length) m.rows.length
    omega
  obtain ⟨n, hn, hs⟩ := h1
  obtain ⟨k, h2, h3, h4⟩ := zlm n hs
  exact ⟨k, by omega, h3, h4⟩
def cls (m : Mach) (s : Nat) : Nat := pkc m m.rows.length s
def z0o (m : Mach) : List Int := pL m m.rows.length
theorem zj4 (hm : MOk m) : zh0 m m.rows.length := by
  obtain ⟨k, h1, h2, _⟩ := zt1 hm
  intro s t hs ht e
  rw [z9c hm h2 _ (by omega) s hs, z9c hm h2 _ (by omega) t ht] at *
  exact e
theorem zix (hm : MOk m) {s t : Nat} (hs : s < m.rows.length) (ht : t < m.rows.length) (h : cls m s = cls m t) {i : Nat} (hi : i < m.inputs.toNat) : ou m s i = ou m t i ∧ (ed m s i = -1 ↔ ed m t i = -1) ∧ (ed m s i ≠ -1 → cls m (ed m s i).toNat = cls m (ed m t i).toNat) := by
  have h1 := (zjx hm hs ht).1 (zj4 hm s t hs ht h)
  obtain ⟨h2, h3⟩ := h1.2 i hi
  have h4 := (zgq hm hs hi).1
  have h5 := (zgq hm ht hi).1
  have h6 : ed m s i = -1 ↔ ed m t i = -1 := by rw [h4, h5, h2]
  exact ⟨h2, h6, fun hne => h3 hne fun e => hne (h6.2 e)⟩
/-! ### Responses -/
theorem zio (m : Mach) : ∀ w : List Int, z2a m (-1) w = List.replicate w.length (-1)
  | [] => rfl
  | c :: w => by
    show (lc m (-1) c).out :: z2a m (lc m (-1) c).to w = _
    rw [show lc m (-1) c = ⟨-1, -1⟩ from rfl, zio m w]; rfl
theorem z5y {s : Nat} (i : Nat) (w : List Int) : z2a m (s : Int) ((i : Int) :: w) = ou m s i :: z2a m (ed m s i) w := by
  show (lc m (s : Int) (i : Int)).out :: z2a m (lc m (s : Int) (i : Int)).to w = _
  unfold lc
  rw [if_neg (by omega)]; rfl
theorem zl5 {s : Nat} (i : Nat) (w : List Int) : l9 m (s : Int) ((i : Int) :: w) = l9 m (ed m s i) w := by
  show l9 m (lc m (s : Int) (i : Int)).to w = _
  unfold lc
  rw [if_neg (by omega)]; rfl
theorem zge (hm : MOk m) : ∀ (k : Nat) {s t : Nat}, s < m.rows.length → t < m.rows.length → (pkc m k s = pkc m k t ↔ ∀ w, WOk m.inputs w → w.length ≤ k → z2a m (s : Int) w = z2a m (t : Int) w)
  | 0, s, t, hs, ht => ⟨fun _ w _ hl => by
    have : w = [] := List.length_eq_zero_iff.1 (by omega)
    subst this; rfl, fun _ => rfl⟩
  | k + 1, s, t, hs, ht => by
    rw [zjx hm hs ht]
    constructor
    · rintro ⟨h1, h2⟩ w hw hl
      match w, hw, hl with
      | [], _, _ => rfl
      | c :: w, hw, hl =>
        have hc : 0 ≤ c ∧ c < m.inputs := hw 0 (by simp)
        obtain ⟨i, rfl⟩ := Int.eq_ofNat_of_zero_le hc.1
        have hi : i < m.inputs.toNat := by omega
        obtain ⟨h3, h4⟩ := h2 i hi
        have h5 := (zgq hm hs hi).1
        have h6 := (zgq hm ht hi).1
        rw [z5y, z5y, h3]
        congr 1
        rcases z4h hm hs hi with e | e
        · rw [e, h6.2 (by rw [← h3]; exact h5.1 e)]
        · have hne : ed m t i ≠ -1 := fun e2 => by have := h5.2 (by rw [h3]; exact h6.1 e2); omega
          have e2 := (z4h hm ht hi).resolve_left hne
          have := (zge hm k (s := (ed m s i).toNat) (t := (ed m t i).toNat) (by omega) (by omega)).1 (h4 (by omega) hne) w (fun j hj => hw (j + 1) (by simpa using hj)) (by simpa using hl)
          rwa [Int.toNat_of_nonneg e.1, Int.toNat_of_nonneg e2.1] at this
    · intro h
      refine ⟨(zge hm k hs ht).2 fun w hw hl => h w hw (by omega), fun i hi => ?_⟩
      have hwc : ∀ w, WOk m.inputs w → WOk m.inputs ((i : Int) :: w) := fun w hw j hj => by
        cases j with
        | zero => exact ⟨by show 0 ≤ (i : Int); omega, by show (i : Int) < m.inputs; omega⟩
        | succ j => exact hw j (by simpa using hj)
      refine ⟨?_, fun e1 e2 => ?_⟩
      · have := h [(i : Int)] (hwc [] fun j hj => by simp at hj) (by simp)
        rw [z5y, z5y] at this
        exact (List.cons.inj this).1
      · have o1 := (z4h hm hs hi).resolve_left e1
        have o2 := (z4h hm ht hi).resolve_left e2
        refine (zge hm k (by omega) (by omega)).2 fun w hw hl => ?_
        have := h ((i : Int) :: w) (hwc w hw) (by simpa using hl)
        rw [z5y, z5y] at this
        rw [Int.toNat_of_nonneg o1.1, Int.toNat_of_nonneg o2.1]
        exact (List.cons.inj this).2
theorem zsw (hm : MOk m) {s t : Nat} (hs : s < m.rows.length) (ht : t < m.rows.length) : cls m s = cls m t ↔ ∀ w, WOk m.inputs w → z2a m (s : Int) w = z2a m (t : Int) w := by
  constructor
  · intro h w hw
    have h1 : pkc m (m.rows.length + w.length) s = pkc m (m.rows.length + w.length) t := by
      rw [z9c hm (zj4 hm) _ (by omega) s hs, z9c hm (zj4 hm) _ (by omega) t ht]; exact h
    exact (zge hm _ hs ht).1 h1 w hw (by omega)
  · intro h
    exact (zge hm _ hs ht).2 fun w hw _ => h w hw
end
end GV
end Go.Proofs.YtkcccdcloealfaaGreat
