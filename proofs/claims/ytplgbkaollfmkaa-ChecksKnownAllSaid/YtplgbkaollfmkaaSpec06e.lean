
import Derived.Test.YtplgbkaollfmkaaBfs06
import Derived.Test.YtplgbkaollfmkaaSpec06a
set_option linter.unusedVariables false
set_option linter.unusedSimpArgs false
namespace Go.Proofs.Ytplgbkaollfmkaa
namespace GV
set_option maxRecDepth 100000
end GV
end Go.Proofs.Ytplgbkaollfmkaa

namespace Go.Proofs.Ytplgbkaollfmkaa
namespace GV
set_option maxRecDepth 100000
def wdOf (P : List BE) (t : Nat) : List Int := ((P.find? fun e => decide (e.st = t)).map (·.wd)).getD []
theorem zkj (P : List BE) (e : BE) (t : Nat) : wdOf (P ++ [e]) t = if occ P t = true then wdOf P t else if e.st = t then e.wd else [] := by
  unfold wdOf occ
  rw [List.find?_append]
  by_cases h : (P.any fun e => decide (e.st = t)) = true
  · rw [if_pos h]
    obtain ⟨x, hx, hp⟩ := List.any_eq_true.1 h
    cases hf : P.find? (fun e => decide (e.st = t)) with
    | none => exact absurd hp (by simpa using List.find?_eq_none.1 hf x hx)
    | some y => rfl
  · rw [if_neg h]
    have hn : P.find? (fun e => decide (e.st = t)) = none := List.find?_eq_none.2 fun x hx hp => h (List.any_eq_true.2 ⟨x, hx, hp⟩)
    rw [hn]
    by_cases he : e.st = t
    · simp [he]
    · simp [he]
theorem zj3 (P : List BE) (k : Nat) (h : k < P.length) : P.take (k + 1) = P.take k ++ [P.getD k default] := by
  rw [List.take_add_one]; simp [List.getD_eq_getElem?_getD, h]
section rch
variable {m : Mach} {s0 : Nat} {P : List BE}
theorem Rch.find (h : Rch m s0 P) {j : Nat} : ∀ k, k ≤ P.length → j < k → wdOf (P.take k) (P.getD j default).st = (P.getD j default).wd
  | 0, _, hj => by omega
  | k + 1, hk, hj => by
    rw [zj3 P k (by omega), zkj]
    by_cases e : j = k
    · subst e
      have ho : occ (P.take j) (P.getD j default).st = false := by
        cases hc : occ (P.take j) (P.getD j default).st with
        | false => rfl
        | true =>
          obtain ⟨i, hi, he⟩ := za2.1 hc
          rw [List.length_take] at hi
          have hg : (P.take j).getD i default = P.getD i default := by simp only [List.getD_eq_getElem?_getD, List.getElem?_take, if_pos (show i < j by omega)]
          rw [hg] at he
          have := h.dis i j (by omega) (by omega) he
          omega
      rw [ho, if_neg (by decide), if_pos rfl]
    · have ih := Rch.find h k (by omega) (show j < k by omega)
      have ho : occ (P.take k) (P.getD j default).st = true := za2.2 ⟨j, by rw [List.length_take]; omega, by simp only [List.getD_eq_getElem?_getD, List.getElem?_take, if_pos (show j < k by omega)]⟩
      rw [if_pos ho, ih]
theorem Rch.fresh (h : Rch m s0 P) {k : Nat} (hk : k < P.length) : occ (P.take k) (P.getD k default).st = false := by
  cases hc : occ (P.take k) (P.getD k default).st with
  | false => rfl
  | true =>
    obtain ⟨i, hi, he⟩ := za2.1 hc
    rw [List.length_take] at hi
    have hg : (P.take k).getD i default = P.getD i default := by simp only [List.getD_eq_getElem?_getD, List.getElem?_take, if_pos (show i < k by omega)]
    rw [hg] at he
    have := h.dis i k (by omega) hk he
    omega
theorem Rch.wdOf (h : Rch m s0 P) {j : Nat} (hj : j < P.length) : wdOf P (P.getD j default).st = (P.getD j default).wd := by
  have := h.find P.length (Nat.le_refl _) hj
  rwa [List.take_length] at this
end rch
end GV
end Go.Proofs.Ytplgbkaollfmkaa

namespace Go.Proofs.Ytplgbkaollfmkaa
namespace GV
set_option maxRecDepth 100000
end GV
end Go.Proofs.Ytplgbkaollfmkaa

namespace Go.Proofs.Ytplgbkaollfmkaa
namespace GV
set_option maxRecDepth 100000
theorem znb {N : Nat} {m : Mach} (hm : MOk m) (hN : 200 ≤ N) : xn N m = some 0 := by rw [z9t hm.small hN, (o8 m).2 hm]
end GV
end Go.Proofs.Ytplgbkaollfmkaa
