/- Chapter 06: the laws Access and Path, of the plain programs. -/
import Derived.Test.YtncblcdhmcmkmaaSpec06e
import Derived.Test.YtncblcdhmcmkmaaLives06
namespace Go.Proofs.Ytncblcdhmcmkmaa
namespace GV
set_option linter.unusedVariables false
set_option maxRecDepth 100000

theorem mach_eta (m : Mach) : (⟨m.inputs, m.outputs, m.rows⟩ : Mach) = m := rfl
theorem mOf_6 {x : MDat} (h : MDOk x) : (mOf x).rows.length ≤ 6 ∧ (mOf x).inputs ≤ 3 := by
  have h1 := h.st; have h2 := h.ins
  have a1 : 1 ≤ x.n ∧ x.n ≤ 6 := by unfold MDat.n; omega
  have a2 : 1 ≤ x.inp ∧ x.inp ≤ 3 := by unfold MDat.inp; omega
  have hl : (mOf x).rows.length = x.n.toNat := by simp [mOf]
  exact ⟨by omega, a2.2⟩
theorem cut_take (w : List Int) (k : Nat) : cut w 0 (k : Int) = w.take k := by simp [cut]
theorem occ_word {m : Mach} {s0 : Nat} {P : List BE} (h : Rch m s0 P) {t : Nat} (ho : occ P t = true) : ∃ j, j < P.length ∧ (P.getD j default).st = t ∧ wdOf P t = (P.getD j default).wd := by
  obtain ⟨j, hj, rfl⟩ := occ_iff.1 ho
  exact ⟨j, hj, rfl, h.wdOf hj⟩
end GV
end Go.Proofs.Ytncblcdhmcmkmaa
