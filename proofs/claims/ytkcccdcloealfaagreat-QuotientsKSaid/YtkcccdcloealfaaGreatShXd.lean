import Derived.Test.YtkcccdcloealfaaGreatShWe
import Derived.Test.YtkcccdcloealfaaGreatShXb
import Derived.Test.YtkcccdcloealfaaGreatRows
set_option linter.unusedVariables false
set_option linter.unusedSimpArgs false
namespace Go.Proofs.YtkcccdcloealfaaGreat
namespace GV
open Go.IntWalk
set_option maxRecDepth 100000
set_option maxHeartbeats 20000000
theorem z2v {N : Nat} {R : RH} {m : Mach} {v_m : Value} (h_m : VRep (qj false false) R v_m m) {r : Bool} (hd0 : xw N m = some r) : CallP Tryz.prog 22 #[v_m] R (fun v R' => v = (.bool r)) := by
 refine qg (args := [v_m]) Tryz.func22 rfl rfl fun A => ?_;rw [xw] at hd0;refine zf (za (kw (T := (qj false false)) rfl rfl h_m fun v1 R3 le4 h2 => ?_));refine zg rfl (ze (v := (.bool false)) rfl) (zh (zf (za (zx rfl fw rfl h2 fun v5 h6 => ?_))));obtain ⟨y7, c8, hd0⟩ := zo hd0
 refine qw rfl q53 rfl (z6e h6 c8) fun v9 R11 le12 h10 => ?_;refine zg rfl (ze (v := v9) rfl) (zh ?_);obtain ⟨q14, hd1, hd0⟩ := zo hd0;refine je (γ := Unit) true [4, 7, 8, 9, 10, 13, 14, 15, 16, 17, 2, 11, 12] (fun g => []) (fun g => [] ++ A) (fun g R => q14 = Ex.go g ∧ True) ?_ ?_
 refine zf (za (zg rfl (ze (v := (.int .i64 0)) rfl) (zh (zz (jf (γ := Nat × Int) true [7, 8, 9, 10, 13, 14, 15, 16, 17, 2, 11, 12, 4] (fun g => [(4, (.int .i64 g.2))]) (fun g => [] ++ A) (fun g R => vk N y7 g.1 g.2 = some q14 ∧ True) (fun g => g.1) (N, 0) ⟨rfl, trivial⟩ ⟨[], List.Perm.refl _⟩ ⟨hd1, trivial⟩ (fun _ => rfl) ?_)))))
 clear hd1;rintro ⟨F17, x18⟩ j29 D30 R19 hD31 le20 ⟨hd1, _⟩;obtain rfl := hD31 rfl;rcases F17 with _ | F17;exact qz hd1;replace hd1 : vk N y7 (F17 + 1) x18 = some q14 := hd1; rw [vk] at hd1
 refine zf (zf (za (zg rfl (zb (v := (.int .i64 x18)) rfl) (zg rfl (zb (v := v9) rfl) (zg rfl (qi rfl Tryz.underlying77 rfl (j3 (h10.mono le20))) (zg rfl (jb rfl rfl) (zh (qa rfl (fun e21 => ?_) (fun e21 => ?_)))))))));replace hd1 := j5 e21 hd1; clear e21
 refine qb (zf (zz (zf (za (zg rfl (zb (v := v9) rfl) (zg rfl (zb (v := (.int .i64 x18)) rfl) ?_))))));obtain ⟨g22, hd1⟩ := zm hd1;refine jo (i := x18.toNat) rfl zct rfl (j3 (h10.mono le20)) (zn rfl g22.1) (qc g22) fun v23 h24 => ?_;refine zx rfl ty4 rfl h24 fun v25 h26 => ?_;obtain rfl := nk.1 h26
 refine zg rfl (ax rfl) (zh (qa rfl (fun e27 => ?_) (fun e27 => ?_)));replace hd1 := j5 e27 hd1; clear e27;refine zf (za (zg rfl (ze (v := (.bool false)) rfl) (zh (qm ?_))));replace hd0 := z2f hd1 hd0;obtain rfl := Option.some.inj hd0
 refine q9 (D := []) (J := []) (rs := [.tmp 2]) (vs := [(.bool false)]) ((le4.trans le12).trans le20) rfl rfl ⟨rfl, trivial⟩ ?_;exact ⟨rfl, rfl⟩;replace hd1 := j6 e27 hd1; clear e27;refine qb (za (zg rfl (zb (v := (.int .i64 x18)) rfl) ?_));obtain ⟨g28, hd1⟩ := zm hd1
 refine zg rfl (jg rfl rfl g28) (zg rfl (ze (v := (.int .i64 (x18 + 1))) rfl) (zh ?_));exact ⟨(fun _ => rfl), (RH.le.refl _), kg, (F17, x18 + 1), Nat.lt_succ_self _, ⟨rfl, trivial⟩, ⟨[], List.Perm.refl _⟩, hd1, trivial⟩;replace hd1 := j6 e21 hd1; clear e21;refine jy ?_
 exact ⟨(fun _ => rfl), le20, kg, (), trivial, ⟨[], List.Perm.refl _⟩, (Option.some.inj hd1).symm, trivial⟩;rintro o13 j32 D33 R15 hD34 le16 ⟨rfl, _⟩;obtain rfl := hD34 rfl;replace hd0 := z4a hd0;refine zf (za (zg rfl (ze (v := (.bool true)) rfl) (zh (qm ?_))));obtain rfl := Option.some.inj hd0
 refine q9 (D := []) (J := []) (rs := [.tmp 2]) (vs := [(.bool true)]) ((le4.trans le12).trans le16) rfl rfl ⟨rfl, trivial⟩ ?_;exact ⟨rfl, rfl⟩
theorem q20 : Enters Tryz.prog 22 := enters_of Tryz.func22 rfl (by kernel_rfl)
end GV
end Go.Proofs.YtkcccdcloealfaaGreat
