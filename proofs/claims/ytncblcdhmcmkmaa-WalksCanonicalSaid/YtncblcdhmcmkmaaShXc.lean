/- The walks of the functions; printed. -/
import Derived.Test.YtncblcdhmcmkmaaShWe
import Derived.Test.YtncblcdhmcmkmaaShXa
import Derived.Test.YtncblcdhmcmkmaaShXb
import Derived.Test.YtncblcdhmcmkmaaRows
namespace Go.Proofs.Ytncblcdhmcmkmaa
namespace GV
open Go.IntWalk
set_option linter.unusedVariables false
set_option linter.unusedSimpArgs false
set_option maxRecDepth 100000
set_option maxHeartbeats 20000000
theorem c_gauntletref06_Access {N : Nat} {R : RH} {m : Mach} {v_m : Value} (h_m : VRep (kMach false false) R v_m m) {r : (List (List Int)) × (List Bool)} (hd0 : gauntletref06_Access N m = some r) : CallP Try.prog 13 #[v_m] R (fun v R' => ∃ u0 u1, v = .tuple #[u0, u1] ∧ VRep (tSl true (tSl false (tInt .i64))) R' u0 r.1 ∧ VRep (tSl true tBool) R' u1 r.2) := by
  refine callP_of_wg (args := [v_m]) Try.func13 rfl rfl fun A => ?_
  rw [gauntletref06_Access] at hd0
  refine wg_seq ?_
  refine wg_region ?_
  refine wo_boxR (T := (kMach false false)) rfl rfl h_m fun v1 R3 le4 h2 => ?_
  refine wo_v rfl (val_assign (v := (.slice none 0 0)) rfl) ?_
  refine wo_v rfl (val_assign (v := (.slice none 0 0)) rfl) ?_
  refine wo_nil ?_
  refine wg_seq ?_
  refine wg_region ?_
  refine wo_loadR rfl ty27 rfl h2 fun v5 h6 => ?_
  replace hd0 := bd_some hd0; obtain ⟨y7, c8, hd0⟩ := hd0
  refine wo_callP rfl en21 rfl (c_gauntletref06_Paths h6 c8) fun v9 R11 le12 h10 => ?_
  obtain ⟨v13, v15, rfl, h14, h16⟩ := h10
  refine wo_v rfl (val_extract rfl rfl) ?_
  refine wo_v rfl (val_extract rfl rfl) ?_
  refine wo_v rfl (val_assign (v := v13) rfl) ?_
  refine wo_v rfl (val_assign (v := v15) rfl) ?_
  refine wo_nil ?_
  refine wg_ret ?_
  obtain rfl := Option.some.inj hd0
  refine body_end (D := []) (J := []) (rs := [.tmp 2, .tmp 3]) (vs := [v13, v15]) (le4.trans le12) rfl rfl ⟨rfl, rfl, trivial⟩ ?_
  exact ⟨rfl, ⟨v13, v15, rfl, h14, h16⟩⟩
theorem en13 : Enters Try.prog 13 := enters_of Try.func13 rfl (by kernel_rfl)
end GV
end Go.Proofs.Ytncblcdhmcmkmaa
