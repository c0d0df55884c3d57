import Derived.Test.YtplgbkaollfmkaaEqv09
import Derived.Test.YtplgbkaollfmkaaSpec06k
set_option linter.unusedVariables false
set_option linter.unusedSimpArgs false
namespace Go.Proofs.Ytplgbkaollfmkaa
namespace GV
section
variable {m : Mach} {s0 : Nat} {P : List BE}
end
/-! ### Homomorphisms -/
def hI (h : Nat → Nat) (z : Int) : Int := if z = -1 then -1 else (h z.toNat : Int)
theorem zo7 (h : Nat → Nat) : hI h (-1) = -1 := rfl
theorem zmc (h : Nat → Nat) (s : Nat) : hI h (s : Int) = (h s : Int) := by unfold hI; rw [if_neg (by omega), Int.toNat_natCast]
structure Hom (m q : Mach) (h : Nat → Nat) : Prop where
  ok : MOk m
  ok' : MOk q
  inp : q.inputs = m.inputs
  rng : ∀ s, s < m.rows.length → h s < q.rows.length
  out : ∀ s i, s < m.rows.length → i < m.inputs.toNat → ou q (h s) i = ou m s i
  to : ∀ s i, s < m.rows.length → i < m.inputs.toNat → ed q (h s) i = hI h (ed m s i)
section
variable {m q : Mach} {h : Nat → Nat}
theorem Hom.run (H : Hom m q h) : ∀ (w : List Int) {s : Nat}, s < m.rows.length → WOk m.inputs w → z04 q (h s : Int) w = z04 m (s : Int) w ∧ xe q (h s : Int) w = hI h (xe m (s : Int) w)
  | [], s, hs, _ => ⟨rfl, (zmc h s).symm⟩
  | c :: w, s, hs, hw => by
    have hc : 0 ≤ c ∧ c < m.inputs := hw 0 (by simp)
    obtain ⟨i, rfl⟩ := Int.eq_ofNat_of_zero_le hc.1
    have hi : i < m.inputs.toNat := by omega
    have hw' : WOk m.inputs w := fun j hj => hw (j + 1) (by simpa using hj)
    rw [zf1, zf1, zeq, zeq, H.out s i hs hi, H.to s i hs hi]
    rcases zho H.ok hs hi with e | ⟨e1, e2⟩
    · rw [e, zo7, zcd, zcd, z97, z97, zo7]; exact ⟨rfl, rfl⟩
    · obtain ⟨t, ht⟩ := Int.eq_ofNat_of_zero_le e1
      rw [ht, zmc]
      obtain ⟨h1, h2⟩ := H.run w (s := t) (by omega) hw'
      rw [h1, h2]; exact ⟨rfl, rfl⟩
end
/-! ### Machines with the same responses -/
def SameR (a b : Mach) : Prop := a.inputs = b.inputs ∧ a.outputs = b.outputs ∧ ∀ w, WOk a.inputs w → z04 a 0 w = z04 b 0 w
theorem SameR.symm {a b : Mach} (h : SameR a b) : SameR b a := ⟨h.1.symm, h.2.1.symm, fun w hw => (h.2.2 w (by rw [h.1]; exact hw)).symm⟩
theorem SameR.trans {a b c : Mach} (h : SameR a b) (k : SameR b c) : SameR a c := ⟨h.1.trans k.1, h.2.1.trans k.2.1, fun w hw => (h.2.2 w hw).trans (k.2.2 w (by rw [← h.1]; exact hw))⟩
section
variable {a b : Mach}
end
/-! ### The quotient -/
section
variable {m : Mach}
theorem zh4 (s : Nat) : name (cls m) s = cls m s := zc3
theorem zo1 : cls m 0 = 0 := by rw [← zh4, zex]
end
end GV
end Go.Proofs.Ytplgbkaollfmkaa
