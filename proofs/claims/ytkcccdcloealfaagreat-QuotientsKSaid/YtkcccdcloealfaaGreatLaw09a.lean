import Derived.Test.YtkcccdcloealfaaGreatSpec09e
import Derived.Test.YtkcccdcloealfaaGreatLives09
import Derived.Test.YtkcccdcloealfaaGreatSpec06m
set_option linter.unusedVariables false
set_option linter.unusedSimpArgs false
namespace Go.Proofs.YtkcccdcloealfaaGreat
namespace GV
set_option maxRecDepth 100000
/-! ### Proper -/
/-! ### K -/
theorem q4h {x : Sgauntletlaw09_K} (hx : CDOk x.f_C) : z00 2000 x = some true := by
  have hst := hx.st
  have hx' : CDOk ⟨x.f_C.f_States % 5, x.f_C.f_Inputs, x.f_C.f_Outputs, x.f_C.f_Tree, x.f_C.f_Edges⟩ := ⟨⟨by dsimp only; omega, by dsimp only; omega⟩, hx.ins, hx.outs, hx.tr, hx.ed⟩
  obtain ⟨c, hc, hcm, hn⟩ := zsc (N := 2000) hx' (by decide)
  dsimp only at hn
  have hm := hcm.ok
  have hle := q1m hm
  have hK : z2r 2000 x = some (lv c) := by
    unfold z2r
    rw [zq ⟨by omega, by omega⟩, zy hc, zy (znf hm (by decide) hcm.rows hcm.ins)]
  have hq := zay hm
  have hp : properM (lv c) = 0 := by
    unfold properM
    have hcp : z7j (lv c) = true := zv6 hm fun s i hs hi => hcm.full s i hs (by have := hm.row s hs; omega)
    rw [if_neg (by rw [(z1q _).2 hq]; simp), hcp, if_neg (by decide), zon hm, if_neg (by decide), zq1 hq (zsv hm), if_neg (by decide)]
  unfold z00
  rw [zy hK]
  refine (zy (show yl 2000 (lv c) = _ from zca hq (by decide))).trans ?_
  refine (zy (show wm 2000 (lv c) = _ from z7t hq.small (by decide))).trans ?_
  rw [hp, zsd hm]
  refine (z9r rfl (show xu 2000 (lv c) = some 0 from (z9g hq.small (by decide)).trans (by rw [hp]))).trans ?_
  have e5 : decide (((lv c).rows.length : Int) ≤ 5) = true := decide_eq_true (by omega)
  rw [e5]
  refine (z9r rfl (show y8 2000 (lv c) 0 (lv c) = _ from zes hq.small (by decide))).trans ?_
  refine (z9r rfl z7x).trans ?_
  rfl
end GV
end Go.Proofs.YtkcccdcloealfaaGreat
