
import Derived.Test.YtkcccdcloealfaaGreatLaw09a
import Derived.Test.YtkcccdcloealfaaGreatShOpens
set_option linter.unusedVariables false
set_option linter.unusedSimpArgs false
namespace Go.Proofs.YtkcccdcloealfaaGreat
namespace GV
set_option maxRecDepth 100000
theorem ztq {m : Mach} (hr : m.rows.length ≤ 70) : ∃ r, ug 2000 m 2000 0 = some r ∧ (r = .rt true ∨ (r = .go () ∧ Small m)) := by
  refine z2o (σ := Unit) (fun F k _ => ug 2000 m F (k : Int)) m.rows.length (fun k _ => ∀ j, j < k → (m.rows.getD j default).length ≤ 20) _ (fun F k _ hk hi => ?_) (fun F _ hi => ?_) 2000 0 () (Nat.zero_le _) (by omega) (fun j hj => by omega)
  · simp only [ug]
    rw [wu (by omega), zq (qo hk)]
    by_cases h : 20 < ((ix m.rows (k : Int)).length : Int)
    · left
      rw [wu h]
      exact ⟨_, rfl, .inl rfl⟩
    · right
      refine ⟨(), fun j hj => ?_, ?_⟩
      · by_cases e : j = k
        · subst e; rw [r9] at h; omega
        · exact hi j (by omega)
      · rw [uo h]; exact zq (qy (by omega))
  · simp only [ug]
    rw [uo (by omega)]
    exact ⟨_, rfl, .inr ⟨rfl, by omega, fun k hk => by have := hi k hk; omega⟩⟩
theorem zqu {m : Mach} {x : MDat} (hx : MDOk x) : aa 2000 m x = some true := by
  have ha := zmv hx
  unfold aa
  by_cases h70 : ((20 < (m.rows.length : Int)) ∧ (m.rows.length : Int) < 65) ∨ 70 < (m.rows.length : Int)
  · exact ct (by rw [Bool.or_eq_true, Bool.and_eq_true, decide_eq_true_iff, decide_eq_true_iff, decide_eq_true_iff]; exact h70)
  refine (cf (by rw [← Bool.not_eq_true, Bool.or_eq_true, Bool.and_eq_true, decide_eq_true_iff, decide_eq_true_iff, decide_eq_true_iff]; exact h70)).trans ?_
  refine q4n (ztq (by omega)) ?_
  rintro r (rfl | ⟨rfl, hs⟩)
  · rfl
  rw [zkv]
  refine (zy (zlt (N := 2000) hs (by decide))).trans ?_
  by_cases hc : ow m = 0
  · have hm := (z1q m).1 hc
    refine (zy (zca (N := 2000) hm (by decide))).trans ?_
    refine (zy (zsg (N := 2000) hm (by decide))).trans ?_
    refine (zy (ziu (N := 2000) hm (by decide))).trans ?_
    rw [hc]
    refine (z9r rfl (z7t (N := 2000) hs (by decide))).trans ?_
    refine (z9r rfl (z9g (N := 2000) hs (by decide))).trans ?_
    refine (cf (by simp)).trans ?_
    refine (ct rfl).trans ?_
    rw [zy z7x]
  · have h1 : yl 2000 m = some (⟨0, 0, []⟩, ow m) := by
      unfold yl; rw [zy (zhq hs (by decide) hc)]
    have h2 : z0e 2000 m = some ([], ow m) := by
      unfold z0e; rw [zy (zhq hs (by decide) hc)]
    refine (zy h1).trans ?_
    refine (zy h2).trans ?_
    refine (zy (zuj (N := 2000) hs (by decide) hc)).trans ?_
    refine (z9r (by simp) (z7t (N := 2000) hs (by decide))).trans ?_
    refine (z9r (by simp) (z9g (N := 2000) hs (by decide))).trans ?_
    refine (cf (by simp)).trans ?_
    refine (uo hc).trans ?_
    refine (zy (zka hx (by decide))).trans ?_
    refine (zy (ztb (N := 2000) hs ha.small (by decide) (.inr rfl) hc)).trans ?_
    refine (zy (zka hx (by decide))).trans ?_
    refine (zy (ztb (N := 2000) ha.small hs (by decide) (.inl ⟨(z1q _).2 ha, rfl⟩) hc)).trans ?_
    refine (z9r (by simp) z7x).trans ?_
    simp
/-! ### Homomorphic -/
end GV
end Go.Proofs.YtkcccdcloealfaaGreat

namespace Go.Proofs.YtkcccdcloealfaaGreat
namespace GV
set_option maxRecDepth 100000
section
variable {m : Mach} {l : List Int}
end
end GV
end Go.Proofs.YtkcccdcloealfaaGreat

namespace Go.Proofs.YtkcccdcloealfaaGreat
namespace GV
theorem wf_u8 {x : Int} (h : (Lit.int .u8 x).wf = true) : 0 ≤ x ∧ x ≤ 255 := by simpa [Lit.wf, IntKind.min, IntKind.max, IntKind.signed, IntKind.bits] using h
theorem wf_u16 {x : Int} (h : (Lit.int .u16 x).wf = true) : 0 ≤ x ∧ x ≤ 65535 := by simpa [Lit.wf, IntKind.min, IntKind.max, IntKind.signed, IntKind.bits] using h
theorem zru {x : MDat} (h : zu1 x) : MDOk x := ⟨wf_u8 h.1, wf_u8 h.2.1, wf_u8 h.2.2.1, fun k hk => wf_u16 (h.2.2.2.2.1 _ (lg hk))⟩
theorem q0p {x : WDat} (h : zzu x) : WDOk x := ⟨fun k hk => wf_u8 (h.1 _ (lg hk))⟩
theorem zs3 {x : Sgauntletlaw06_C} (h : zzb x) : CDOk x := ⟨wf_u8 h.1, wf_u8 h.2.1, wf_u8 h.2.2.1, fun k hk => wf_u8 (h.2.2.2.1.1 _ (lg hk)), fun k hk => wf_u16 (h.2.2.2.2.1 _ (lg hk))⟩
theorem zni {x : MDat} {y : WDat} (hx : zu1 x) (hy : zzu y) : oo 2000 x y = some true := zo8 (zru hx) (q0p hy)
theorem zxe {x : MDat} {y : WDat} (hx : zu1 x) (hy : zzu y) : rq 2000 x y = some true := zz7 (zru hx) (q0p hy)
theorem zoq {x : MDat} {y : Sgauntletlaw06_C} (hx : zu1 x) (hy : zzb y) : oz 2000 x y = some true := zrm (zru hx) (zs3 hy)
theorem zo9 {m : Mach} {x : MDat} (hm : q5a m) (hx : zu1 x) : aa 2000 m x = some true := zqu (zru hx)
end GV
end Go.Proofs.YtkcccdcloealfaaGreat
