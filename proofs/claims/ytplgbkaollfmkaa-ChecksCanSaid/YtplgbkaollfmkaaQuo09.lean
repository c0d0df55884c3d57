import Derived.Test.YtplgbkaollfmkaaEqv09
import Derived.Test.YtplgbkaollfmkaaSpec06k
set_option linter.unusedVariables false
set_option linter.unusedSimpArgs false
namespace Go.Proofs.Ytplgbkaollfmkaa
namespace GV
section
variable {m : Mach} {s0 : Nat} {P : List BE}
end
/-! ### Homomorphisms -/
def hI (h : Nat → Nat) (z : Int) : Int := if z = -1 then -1 else (h z.toNat : Int)
theorem zqj (h : Nat → Nat) : hI h (-1) = -1 := rfl
theorem zrd (h : Nat → Nat) (s : Nat) : hI h (s : Int) = (h s : Int) := by unfold hI; rw [if_neg (by omega), Int.toNat_natCast]
structure Hom (m q : Mach) (h : Nat → Nat) : Prop where
  ok : MOk m
  ok' : MOk q
  inp : q.inputs = m.inputs
  rng : ∀ s, s < m.rows.length → h s < q.rows.length
  out : ∀ s i, s < m.rows.length → i < m.inputs.toNat → ou q (h s) i = ou m s i
  to : ∀ s i, s < m.rows.length → i < m.inputs.toNat → ed q (h s) i = hI h (ed m s i)
section
variable {m q : Mach} {h : Nat → Nat}
theorem Hom.run (H : Hom m q h) : ∀ (w : List Int) {s : Nat}, s < m.rows.length → WOk m.inputs w → oh q (h s : Int) w = oh m (s : Int) w ∧ lq q (h s : Int) w = hI h (lq m (s : Int) w)
  | [], s, hs, _ => ⟨rfl, (zrd h s).symm⟩
  | c :: w, s, hs, hw => by
    have hc : 0 ≤ c ∧ c < m.inputs := hw 0 (by simp)
    obtain ⟨i, rfl⟩ := Int.eq_ofNat_of_zero_le hc.1
    have hi : i < m.inputs.toNat := by omega
    have hw' : WOk m.inputs w := fun j hj => hw (j + 1) (by simpa using hj)
    rw [zhy, zhy, zhf, zhf, H.out s i hs hi, H.to s i hs hi]
    rcases zc3 H.ok hs hi with e | ⟨e1, e2⟩
    · rw [e, zqj, zge, zge, zd9, zd9, zqj]; exact ⟨rfl, rfl⟩
    · obtain ⟨t, ht⟩ := Int.eq_ofNat_of_zero_le e1
      rw [ht, zrd]
      obtain ⟨h1, h2⟩ := H.run w (s := t) (by omega) hw'
      rw [h1, h2]; exact ⟨rfl, rfl⟩
end
/-! ### Machines with the same responses -/
def SameR (a b : Mach) : Prop := a.inputs = b.inputs ∧ a.outputs = b.outputs ∧ ∀ w, WOk a.inputs w → oh a 0 w = oh b 0 w
theorem SameR.symm {a b : Mach} (h : SameR a b) : SameR b a := ⟨h.1.symm, h.2.1.symm, fun w hw => (h.2.2 w (by rw [h.1]; exact hw)).symm⟩
theorem SameR.trans {a b c : Mach} (h : SameR a b) (k : SameR b c) : SameR a c := ⟨h.1.trans k.1, h.2.1.trans k.2.1, fun w hw => (h.2.2 w hw).trans (k.2.2 w (by rw [← h.1]; exact hw))⟩
section
variable {a b : Mach}
end
/-! ### The quotient -/
section
variable {m : Mach}
theorem zkz (s : Nat) : name (cls m) s = cls m s := zc8
theorem zrw : cls m 0 = 0 := by rw [← zkz, zhd]
end
end GV
end Go.Proofs.Ytplgbkaollfmkaa
