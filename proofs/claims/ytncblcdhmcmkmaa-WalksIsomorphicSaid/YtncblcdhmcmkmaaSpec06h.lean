/- Chapter 06: other numberings; the law Canonical. -/
import Derived.Test.YtncblcdhmcmkmaaSpec06g
namespace Go.Proofs.Ytncblcdhmcmkmaa
namespace GV
set_option linter.unusedVariables false
set_option maxRecDepth 100000

/-- A numbering of n states that leaves the initial one. -/
structure Num (n : Nat) (L : List Nat) : Prop where
  len : L.length = n
  rng : ∀ k, k < n → L.getD k 0 < n
  inj : ∀ i j, i < n → j < n → L.getD i 0 = L.getD j 0 → i = j
  sur : ∀ s, s < n → ∃ k, k < n ∧ L.getD k 0 = s
  zero : L.getD 0 0 = 0
theorem num_range (n : Nat) (hn : 1 ≤ n) : Num n (List.range n) := by
  have g : ∀ k, k < n → (List.range n).getD k 0 = k := fun k hk => by simp [List.getD_eq_getElem?_getD, hk]
  exact ⟨by simp, fun k hk => by rw [g k hk]; exact hk, fun i j hi hj h => by rw [g i hi, g j hj] at h; exact h, fun s hs => ⟨s, hs, g s hs⟩, g 0 (by omega)⟩
def swapN (L : List Nat) (a b : Nat) : List Nat := (L.set a (L.getD b 0)).set b (L.getD a 0)
def tr (a b k : Nat) : Nat := if k = b then a else if k = a then b else k
theorem swapN_get {n : Nat} {L : List Nat} (hl : L.length = n) {a b k : Nat} (ha : a < n) (hb : b < n) (hk : k < n) : (swapN L a b).getD k 0 = L.getD (tr a b k) 0 := by
  unfold swapN tr
  rw [List.getD_eq_getElem?_getD, List.getElem?_set]
  by_cases h1 : b = k
  · subst h1
    rw [if_pos rfl, if_pos (by rw [List.length_set]; omega), if_pos rfl]; rfl
  · rw [if_neg h1, if_neg (fun e => h1 e.symm), List.getElem?_set]
    by_cases h2 : a = k
    · subst h2
      rw [if_pos rfl, if_pos (by omega), if_pos rfl]; rfl
    · rw [if_neg h2, if_neg (fun e => h2 e.symm), ← List.getD_eq_getElem?_getD]
theorem num_swap {n : Nat} {L : List Nat} (h : Num n L) {a b : Nat} (ha : 1 ≤ a ∧ a < n) (hb : 1 ≤ b ∧ b < n) : Num n (swapN L a b) := by
  have g : ∀ k, k < n → (swapN L a b).getD k 0 = L.getD (tr a b k) 0 := fun k hk => swapN_get h.len ha.2 hb.2 hk
  have ht : ∀ k, k < n → tr a b k < n := fun k hk => by unfold tr; split; omega; split; omega; exact hk
  have hi : ∀ k, tr a b (tr a b k) = k := fun k => by
    unfold tr
    by_cases h1 : k = b
    · subst h1; rw [if_pos rfl]; by_cases h2 : a = k
      · subst h2; simp
      · rw [if_neg h2, if_pos rfl]
    · rw [if_neg h1]; by_cases h2 : k = a
      · subst h2; rw [if_pos rfl, if_pos rfl]
      · rw [if_neg h2, if_neg h1, if_neg h2]
  refine ⟨by unfold swapN; rw [List.length_set, List.length_set]; exact h.len, fun k hk => by rw [g k hk]; exact h.rng _ (ht k hk), fun i j hi' hj e => ?_, fun s hs => ?_, ?_⟩
  · rw [g i hi', g j hj] at e
    have := h.inj _ _ (ht i hi') (ht j hj) e
    rw [← hi i, this, hi]
  · obtain ⟨k, hk, e⟩ := h.sur s hs
    exact ⟨tr a b k, ht k hk, by rw [g _ (ht k hk), hi, e]⟩
  · rw [g 0 (by omega)]
    have : tr a b 0 = 0 := by unfold tr; rw [if_neg (by omega), if_neg (by omega)]
    rw [this, h.zero]
theorem castL_set (L : List Nat) (a v : Nat) : (castL L).set a (v : Int) = castL (L.set a v) := by
  unfold castL; rw [List.map_set]
theorem up_swap {n : Nat} {L : List Nat} (hl : L.length = n) {a b : Nat} (ha : a < n) (hb : b < n) : up (up (castL L) (a : Int) (ix (castL L) (b : Int))) (b : Int) (ix (castL L) (a : Int)) = castL (swapN L a b) := by
  rw [castL_get (by omega), castL_get (by omega), up_nat, up_nat, castL_set, castL_set]; rfl
section
variable {m : Mach} {L : List Nat}
theorem num_mem (h : Num m.rows.length L) {s : Nat} (hs : s < m.rows.length) : s ∈ L := by
  obtain ⟨k, hk, rfl⟩ := h.sur s hs
  have := h.len
  simp [List.getD_eq_getElem?_getD, show k < L.length by omega]
theorem num_closed (hm : MOk m) (h : Num m.rows.length L) : ClosedP m L := by
  have hl := h.len
  have hr1 := hm.r1
  refine ⟨fun s hs => ?_, ?_, fun s hs i hi hne => ?_, fun e => by rw [e] at hl; simp at hl; omega⟩
  · obtain ⟨k, hk, rfl⟩ := List.mem_iff_getElem.1 hs
    have := h.rng k (by omega)
    simpa [List.getD_eq_getElem?_getD, hk] using this
  · rw [List.nodup_iff_pairwise_ne, List.pairwise_iff_getElem]
    intro i j hi hj hij e
    have := h.inj i j (by omega) (by omega) (by simpa [List.getD_eq_getElem?_getD, hi, hj] using e)
    omega
  · obtain ⟨k, hk, rfl⟩ := List.mem_iff_getElem.1 hs
    have h1 := h.rng k (by omega)
    have h2 : L[k] < m.rows.length := by simpa [List.getD_eq_getElem?_getD, hk] using h1
    have := (ed_ok hm h2 hi).resolve_left hne
    exact num_mem h (by omega)
end
theorem castL_range (k : Nat) : castL (List.range (k + 1)) = castL (List.range k) ++ [(k : Int)] := by
  unfold castL; rw [List.range_succ, List.map_append]; rfl
theorem g_bd {α β : Type} {b : Bool} {e : Option α} {v : α} {k : Option α → Option β} (hb : b = true) (he : e = some v) : bd (gop b e) k = k (some v) := by
  rw [bd_gop (fun _ => he), hb]; rfl
end GV
end Go.Proofs.Ytncblcdhmcmkmaa
