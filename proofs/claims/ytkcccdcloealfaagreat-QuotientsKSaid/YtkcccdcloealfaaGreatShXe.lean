import Derived.Test.YtkcccdcloealfaaGreatShWe
import Derived.Test.YtkcccdcloealfaaGreatShXc
import Derived.Test.YtkcccdcloealfaaGreatRows
set_option linter.unusedVariables false
set_option linter.unusedSimpArgs false
namespace Go.Proofs.YtkcccdcloealfaaGreat
namespace GV
open Go.IntWalk
set_option maxRecDepth 100000
set_option maxHeartbeats 20000000
theorem z8d {N : Nat} {R : RH} {m : Mach} {v_m : Value} (h_m : VRep (qj false false) R v_m m) {s : Int} {i : Int} {r : Edge} (hd0 : z10 N m s i = some r) : CallP Tryz.prog 36 #[v_m, (.int .i64 s), (.int .i64 i)] R (fun v R' => v = (uy r)) := by
 refine qg (args := [v_m, (.int .i64 s), (.int .i64 i)]) Tryz.func36 rfl rfl fun A => ?_;rw [z10] at hd0;refine zf (za (kw (T := (qj false false)) rfl rfl h_m fun v1 R3 le4 h2 => ?_));refine kv rfl zcg fun b5 => ?_
 refine zh (zf (zf (za (zg rfl (zb (v := (.int .i64 s)) rfl) (zg rfl (jb rfl rfl) (zh (qa rfl (fun e7 => ?_) (fun e7 => ?_))))))));replace hd0 := j5 e7 hd0; clear e7
 refine zf (za (zg rfl (bn (ps := [(0, (.int .i64 (-1))), (1, (.int .i64 (-1)))]) (v := (.agg #[(.int .i64 (-1)), (.int .i64 (-1))])) rfl (fun w => by kernel_rfl)) (jc (i := 0) (vs := [(.int .i64 (-1)), (.int .i64 (-1))]) z6z rfl rfl rfl rfl rfl rfl (zw rfl (zw rfl jl)) ?_)));refine zh (qm ?_);obtain rfl := Option.some.inj hd0
 refine q9 (D := []) (J := [box b5 [(.int .i64 (-1)), (.int .i64 (-1))] 62]) (rs := [.cell 6 62]) (vs := [(.agg #[(.int .i64 (-1)), (.int .i64 (-1))])]) le4 rfl rfl ⟨⟨_, rfl, fun w hh => si (i := 0) hh rfl rfl zko z6z rfl rfl⟩, trivial⟩ ?_;exact ⟨rfl, rfl⟩;replace hd0 := j6 e7 hd0; clear e7;refine qb (zf (za (ji rfl u6 ko rfl h2 fun v8 h9 => ?_)))
 refine zx rfl z0d rfl h9 fun v10 h11 => ?_;refine zg rfl (zb (v := (.int .i64 s)) rfl) ?_;obtain ⟨g12, hd0⟩ := zm hd0;refine jo (i := s.toNat) rfl z5f rfl (j3 h11) (zn rfl g12.1) (qc g12) fun v13 h14 => ?_;refine zx rfl z5b rfl h14 fun v15 h16 => ?_;refine zg rfl (zb (v := (.int .i64 i)) rfl) ?_;obtain ⟨g17, hd0⟩ := zm hd0
 refine jo (i := i.toNat) rfl z7q rfl (j3 h16) (zn rfl g17.1) (qc g17) fun v18 h19 => ?_;refine zx rfl za6 rfl h19 fun v20 h21 => ?_;obtain rfl := cu.1 h21;refine jc (i := 0) (vs := [(.int .i64 ((ix (ix m.rows s) i).to)), (.int .i64 ((ix (ix m.rows s) i).out))]) z6z rfl rfl rfl rfl rfl rfl (zw rfl (zw rfl jl)) ?_;refine zh (qm ?_)
 obtain rfl := Option.some.inj hd0;refine q9 (D := []) (J := [box b5 [(.int .i64 ((ix (ix m.rows s) i).to)), (.int .i64 ((ix (ix m.rows s) i).out))] 62]) (rs := [.cell 6 62]) (vs := [(.agg #[(.int .i64 ((ix (ix m.rows s) i).to)), (.int .i64 ((ix (ix m.rows s) i).out))])]) le4 rfl rfl ⟨⟨_, rfl, fun w hh => si (i := 0) hh rfl rfl zko z6z rfl rfl⟩, trivial⟩ ?_;exact ⟨rfl, rfl⟩
theorem q34 : Enters Tryz.prog 36 := enters_of Tryz.func36 rfl (by kernel_rfl)
end GV
end Go.Proofs.YtkcccdcloealfaaGreat
