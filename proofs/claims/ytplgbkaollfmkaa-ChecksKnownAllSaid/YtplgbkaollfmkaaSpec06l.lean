import Derived.Test.YtplgbkaollfmkaaSpec06e
import Derived.Test.YtplgbkaollfmkaaLives06
set_option linter.unusedVariables false
set_option linter.unusedSimpArgs false
namespace Go.Proofs.Ytplgbkaollfmkaa
namespace GV
set_option maxRecDepth 100000
structure CDOk (x : Sgauntletlaw06_C) : Prop where
  st : 0 ≤ x.f_States ∧ x.f_States ≤ 255
  ins : 0 ≤ x.f_Inputs ∧ x.f_Inputs ≤ 255
  outs : 0 ≤ x.f_Outputs ∧ x.f_Outputs ≤ 255
  tr : ∀ k, k < x.f_Tree.length → 0 ≤ x.f_Tree.getD k default ∧ x.f_Tree.getD k default ≤ 255
  ed : ∀ k, k < x.f_Edges.length → 0 ≤ x.f_Edges.getD k default ∧ x.f_Edges.getD k default ≤ 65535
structure CMach (m : Mach) : Prop where
  ok : MOk m
  rows : m.rows.length ≤ 6
  ins : m.inputs ≤ 3
  outs : m.outputs ≤ 3
  full : ∀ s i, s < m.rows.length → i < (m.rows.getD s default).length → 0 ≤ ((m.rows.getD s default).getD i default).to
  tree : ∀ t, 0 < t → t < m.rows.length → ∃ a i, a < t ∧ i < (m.rows.getD a default).length ∧ ((m.rows.getD a default).getD i default).to = (t : Int)
def cel (X : List (List Edge)) (a i : Nat) : Edge := (X.getD a default).getD i default
structure CSh (n I : Nat) (O : Int) (X : List (List Edge)) : Prop where
  len : X.length = n
  row : ∀ a, a < n → (X.getD a default).length = I
  out : ∀ a i, a < n → i < I → 0 ≤ (cel X a i).out ∧ (cel X a i).out < O
section cof
variable {N : Nat} {x : Sgauntletlaw06_C} {n I : Nat} {O : Int}
structure CTree (n I : Nat) (O : Int) (s : Nat) (X : List (List Edge)) : Prop where
  sh : CSh n I O X
  rng : ∀ a i, a < n → i < I → (cel X a i).to = -1 ∨ (0 ≤ (cel X a i).to ∧ (cel X a i).to < n)
  late : ∀ a i, s ≤ a + 1 → a < n → i < I → (cel X a i).to = -1
  tree : ∀ t, 0 < t → t < s → ∃ a i, a < t ∧ i < I ∧ (cel X a i).to = (t : Int)
structure CFill (n I : Nat) (O : Int) (s k : Nat) (X : List (List Edge)) : Prop where
  sh : CSh n I O X
  rng : ∀ a i, a < n → i < I → (cel X a i).to = -1 ∨ (0 ≤ (cel X a i).to ∧ (cel X a i).to < n)
  done : ∀ a i, a < n → i < I → (a < s ∨ (a = s ∧ i < k)) → 0 ≤ (cel X a i).to
  tree : ∀ t, 0 < t → t < n → ∃ a i, a < t ∧ i < I ∧ (cel X a i).to = (t : Int)
end cof
theorem CMach.all {m : Mach} (h : CMach m) : ∀ t, t < m.rows.length → ∃ j, j < (rch m 0).length ∧ ((rch m 0).getD j default).st = t := by
  have hm := h.ok
  have hP := zog hm (s0 := 0) (by have := hm.r1; omega)
  generalize rch m 0 = P at hP ⊢
  intro t
  induction t using Nat.strongRecOn with
  | ind t ih =>
    intro ht
    by_cases h0 : t = 0
    · subst h0; exact ⟨0, hP.pos, by rw [hP.root]⟩
    · obtain ⟨a, i, ha, hi, hto⟩ := h.tree t (by omega) ht
      obtain ⟨q, hq, hqa⟩ := ih a ha (by omega)
      have hrow := hm.row a (by omega)
      have he : ed m (P.getD q default).st i = (t : Int) := by rw [hqa]; exact hto
      obtain ⟨j, hj, h1, _⟩ := hP.cls q i hq (by omega) (by rw [he]; omega)
      exact ⟨j, hj, by omega⟩
theorem CMach.len {m : Mach} (h : CMach m) : (rch m 0).length = m.rows.length := by
  have hm := h.ok
  have hP := zog hm (s0 := 0) (by have := hm.r1; omega)
  have hall := h.all
  generalize rch m 0 = P at hP hall ⊢
  have h1 := hP.le
  have hsub : List.range m.rows.length ⊆ P.map (·.st) := by
    intro t ht
    rw [List.mem_range] at ht
    obtain ⟨j, hj, hst⟩ := hall t ht
    exact List.mem_map.2 ⟨_, l5 hj, hst⟩
  have := List.Nodup.length_le_of_subset List.nodup_range hsub
  rw [List.length_range, List.length_map] at this
  omega
end GV
end Go.Proofs.Ytplgbkaollfmkaa
