import Derived.Test.YtplgbkaollfmkaaLaw06a
set_option linter.unusedVariables false
set_option linter.unusedSimpArgs false
namespace Go.Proofs.Ytplgbkaollfmkaa
namespace GV
set_option maxRecDepth 100000
def pos (L : List Nat) (t : Int) : Int := if t = -1 then -1 else (L.idxOf t.toNat : Int)
structure ClosedP (m : Mach) (L : List Nat) : Prop where
  rng : ∀ s ∈ L, s < m.rows.length
  nd : L.Nodup
  cl : ∀ s ∈ L, ∀ i, i < m.inputs.toNat → ed m s i ≠ -1 → (ed m s i).toNat ∈ L
  ne : L ≠ []
section
variable {m : Mach} {L : List Nat}
theorem ClosedP.len (hc : ClosedP m L) : L.length ≤ m.rows.length := by
  have := List.Nodup.length_le_of_subset hc.nd (l₂ := List.range m.rows.length) (fun x hx => List.mem_range.2 (hc.rng x hx))
  simpa using this
end
/-! ### The program's part -/
theorem zit {α : Type} [Inhabited α] (P : List α) (k : Nat) (h : k < P.length) : P.take (k + 1) = P.take k ++ [P.getD k default] := by
  rw [List.take_add_one]; simp [List.getD_eq_getElem?_getD, h]
theorem zp2 {α : Type} {X : List α} {n k : Nat} {z y : α} (hl : X.length = k) (hk : k < n) : (X ++ List.replicate (n - k) z).set k y = (X ++ [y]) ++ List.replicate (n - (k + 1)) z := by
  rw [show n - k = (n - (k + 1)) + 1 by omega, List.replicate_succ, List.set_append_right _ _ (by omega), hl, Nat.sub_self]
  simp
end GV
end Go.Proofs.Ytplgbkaollfmkaa
