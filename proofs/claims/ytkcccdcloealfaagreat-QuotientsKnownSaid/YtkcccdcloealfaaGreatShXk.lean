import Derived.Test.YtkcccdcloealfaaGreatShWd
import Derived.Test.YtkcccdcloealfaaGreatShXb
import Derived.Test.YtkcccdcloealfaaGreatShXc
import Derived.Test.YtkcccdcloealfaaGreatShXd
import Derived.Test.YtkcccdcloealfaaGreatShXe
import Derived.Test.YtkcccdcloealfaaGreatShXf
import Derived.Test.YtkcccdcloealfaaGreatShXh
import Derived.Test.YtkcccdcloealfaaGreatShXi
import Derived.Test.YtkcccdcloealfaaGreatRows
set_option linter.unusedVariables false
set_option linter.unusedSimpArgs false
namespace Go.Proofs.YtkcccdcloealfaaGreat
namespace GV
open _root_.Go.Proofs.Tryz
open Go.IntWalk
set_option maxRecDepth 100000
set_option maxHeartbeats 20000000
theorem qac{a b:Bool}:TyOk prog 59 (z2p a b):=by
 obtain⟨i,hi,c⟩: ∃ i,prog.info? 59=some i∧i.size=5:=wy (by kernel_rfl);exact z2n underlying59 hi rfl c
theorem zsg:FieldOk prog 59 0 0:=by
 obtain⟨i,hi,a⟩: ∃ i,prog.info? 52=some i∧i.size=5:=wy (by kernel_rfl);exact ru underlying59 rfl rfl hi (by rw [a];rfl)
theorem ag5: ∀ w,(isAgg 5).run prog w= .ok false w:=fun w=>by kernel_rfl
theorem sz5: ∀ w,(sizeOf 5).run prog w= .ok 1 w:=fun w=>by kernel_rfl
theorem q5c: ∀ w,(isAgg 52).run prog w= .ok true w:=fun w=>by kernel_rfl
theorem q3t: ∀ w,(sizeOf 52).run prog w= .ok 5 w:=fun w=>by kernel_rfl
theorem zeo{N:Nat}{R:RH}{x:Sd}{c:Value}(h:VRep (z2p false false) R c x){r:Mach}(b:z3y N x=some r):CallP prog 28 #[c] R (fun v R'=>VRep (qz false false) R' v r):=by
 refine qf (args:=[c]) func28 rfl rfl fun A=>?_;rw [z3y] at b;refine zn ?_;obtain⟨n,o,rfl,p,q⟩:=zdc h;refine zyt (cs:=[(.int .u8 x.fJ.fD),(.int .u8 x.fJ.fA),(.int .u8 x.fJ.fB),n,o]) rfl rfl rfl fun s=>?_;refine kv rfl z5j fun t=>?_
 refine qw (zq (qd zsg rfl) (zq (qd zs8 rfl) (zq (qi (i:=1) ag5 rfl rfl rfl) ?_)));obtain⟨u,b⟩:=ze b;refine zq (rq rfl rfl u) (zq (qd zsg rfl) (zq (qd zs8 rfl) (jd (i:=1) (vs:=[(.int .u8 (x.fJ.fD%5))]) sz5 rfl rfl rfl rfl rfl rfl (zu rfl jh) ?_)))
 refine qw (zq (qd zsg rfl) (zq (ql (i:=1) q5c q3t rfl rfl rfl rfl) ?_));obtain⟨y,j,b⟩:=zm b
 refine j3 rfl q7z rfl (z9e (⟨_,⟨_,_,rfl,rfl,⟨_,_,rfl,rfl,⟨_,_,rfl,rfl,⟨_,_,rfl,(je rfl p),(je rfl q)⟩⟩⟩⟩,rfl⟩:VRep (dm false false) _ _ (⟨x.fJ.fD%5,x.fJ.fA,x.fJ.fB,x.fJ.fE,x.fJ.fG⟩:Sc)) j) fun z B e k=>?_;obtain⟨a,l,b⟩:=zm b
 refine j3 rfl q6l rfl (z5b k l) fun C E f m=>?_;obtain⟨d,rfl,g⟩:=oz m;refine jd (i:=0) (vs:=[(vi a.inputs),(vi a.outputs),d]) yh rfl rfl rfl rfl rfl rfl (zu rfl (zu rfl (zu (z2g g) jh))) ?_;refine z8 (qp ?_);obtain rfl:=Option.some.inj b
 refine q9 (D:=[]) (J:=[box t [(vi a.inputs),(vi a.outputs),d] 30,box s [(.int .u8 (x.fJ.fD%5)),(.int .u8 x.fJ.fA),(.int .u8 x.fJ.fB),n,o] 59]) (rs:=[.cell 2 30]) (vs:=[(.agg #[(vi a.inputs),(vi a.outputs),d])]) (e.trans f) rfl rfl ⟨⟨_,rfl,fun w F=>z05 (i:=0) F rfl rfl ry yh rfl rfl⟩,trivial⟩ ?_
 exact⟨rfl,(⟨_,⟨_,_,rfl,rfl,⟨_,_,rfl,rfl,(je rfl g)⟩⟩,rfl⟩:VRep (qz false false) _ _ (⟨a.inputs,a.outputs,a.rows⟩:Mach))⟩
theorem q9c:Enters prog 28:=enters_of func28 rfl (by kernel_rfl)
theorem zb2{N:Nat}{R:RH}{x:Sd}{p:Value}(q:VRep (z2p false false) R p x){r:Bool}(c:z0q N x=some r):CallP prog 7 #[p] R (fun v R'=>v=(.bool r)):=by
 refine qf (args:=[p]) func7 rfl rfl fun A=>?_;rw [z0q] at c;refine zn (ky (T:=(z2p false false)) rfl rfl rfl q fun v1 R3 s h5 h2=>?_);refine zf (.bool false) (qw (zq (jl qac rfl rfl h5 (q.mono s)) ?_));obtain⟨a,c7,c⟩:=zm c
 refine j3 rfl q9c rfl (zeo (q.mono s) c7) fun v8 aq B h9=>?_;refine kv rfl z5j fun C=>?_;obtain⟨e,rfl,l⟩:=oz h9;refine jd (i:=0) (vs:=[(vi a.inputs),(vi a.outputs),e]) yh rfl rfl rfl rfl rfl rfl (zu rfl (zu rfl (zu (z2g l) jh))) ?_
 refine qw (zq (ql (i:=0) ry yh rfl rfl rfl rfl) ?_);obtain⟨b,I,c⟩:=zm c;refine j3 rfl ztk rfl (z0j (⟨_,⟨_,_,rfl,rfl,⟨_,_,rfl,rfl,(je rfl l)⟩⟩,rfl⟩:VRep (qz false false) _ _ (⟨a.inputs,a.outputs,a.rows⟩:Mach)) I) fun au av f K=>?_;obtain⟨L,rfl,M⟩:=K
 refine zh (.tuple #[L,(vi b.2)]) (zq (qm rfl rfl) (zq (qm rfl rfl) (kv rfl z5j fun O=>?_)));obtain⟨o,rfl,E⟩:=oz M;refine jd (i:=0) (vs:=[(vi b.1.inputs),(vi b.1.outputs),o]) yh rfl rfl rfl rfl rfl rfl (zu rfl (zu rfl (zu (z2g E) jh))) ?_
 refine zf (vi b.2) (qw (ji (v:=(.agg #[(vi a.inputs),(vi a.outputs),e])) rfl (ql (i:=1) ry yh rfl rfl rfl rfl) ?_));obtain⟨j,P,c⟩:=zm c
 refine z6c (φ:=phX (vi j)) rfl (jy (vs:=[(.agg #[(vi a.inputs),(vi a.outputs),e])]) zsc rfl (z0x (⟨_,⟨_,_,rfl,rfl,⟨_,_,rfl,rfl,(je rfl (l.mono f))⟩⟩,rfl⟩:VRep (qz false false) _ _ (⟨a.inputs,a.outputs,a.rows⟩:Mach)) P) (fun _ _ h=>h)) fun aw ax g Q=>?_;obtain rfl:=Eq.symm Q
 refine ji rfl (x9 rfl rfl) (ji (v:=(.bool (decide (j=0)))) rfl (zb rfl) (j5 rfl rfl rfl rfl (fun d=>qx (v:=(.agg #[(vi a.inputs),(vi a.outputs),e])) (ql (i:=1) ry yh rfl rfl rfl rfl)) fun ay S=>?_));obtain⟨m,U,c⟩:=zm c
 refine z5a rfl rfl rfl rfl (fun d=>jy (vs:=[(.agg #[(vi a.inputs),(vi a.outputs),e])]) q6k (zba (S.1 (zo rfl d)) rfl) ((by have n:=(mq U (zo rfl d));exact z5l (⟨_,⟨_,_,rfl,rfl,⟨_,_,rfl,rfl,(je rfl (l.mono (f.trans g)))⟩⟩,rfl⟩:VRep (qz false false) _ _ (⟨a.inputs,a.outputs,a.rows⟩:Mach)) n)) (fun _ _ h=>h)) fun V W k t=>?_
 replace t:phG (true&&((decide (j=0))==true)) (phX (vi (m.getD default))) V W:=t;refine j5 rfl rfl rfl rfl (fun d=>qx (x9 (t.1 (zo rfl d)) rfl)) fun az X=>?_
 refine ji rfl (uk rfl (fun u=>(X.1 (zo rfl u))) rfl) (ji (v:=(.bool ((decide (j=0))&&(decide ((m.getD default)=0))))) rfl (zb rfl) (j5 rfl rfl rfl rfl (fun d=>qx (v:=(.pointer (some ⟨C,2,none⟩))) (qd uf rfl)) fun aA Y=>?_))
 refine j5 rfl rfl rfl rfl (fun d=>qx (v:=e) (qi (i:=1) zc2 (Y.1 (zo rfl d)) rfl rfl)) fun aB Z=>?_;refine j5 rfl rfl rfl rfl (fun d=>qx (qj rfl underlying28 (Z.1 (zo rfl d)) (ja (l.mono ((f.trans g).trans k))))) fun aC aa=>?_
 refine j5 rfl rfl rfl rfl (fun d=>qx (zvk (aa.1 (zo rfl d)) rfl)) fun aD ab=>?_;refine ji rfl (uk rfl (fun u=>(ab.1 (zo rfl u))) rfl) ?_;let G3:=(((decide (j=0))&&(decide ((m.getD default)=0)))&&(decide ((↑a.rows.length:Int)≤5)))
 refine ji (v:=(.bool G3)) rfl (zb rfl) (j5 rfl rfl rfl rfl (fun d=>qx (v:=(.agg #[(vi b.1.inputs),(vi b.1.outputs),o])) (ql (i:=0) ry yh rfl rfl rfl rfl)) fun aE ac=>?_);refine j5 rfl rfl rfl rfl (fun d=>qx (v:=(vi b.2)) (zb rfl)) fun aF ad=>?_
 refine j5 rfl rfl rfl rfl (fun d=>qx (v:=(.agg #[(vi a.inputs),(vi a.outputs),e])) (ql (i:=1) ry yh rfl rfl rfl rfl)) fun aG ae=>?_;obtain⟨w,af,c⟩:=zm c
 refine z5a rfl rfl rfl rfl (fun d=>jy (vs:=[(.agg #[(vi b.1.inputs),(vi b.1.outputs),o]),(vi b.2),(.agg #[(vi a.inputs),(vi a.outputs),e])]) q3f (zba (ac.1 (zo rfl d)) (zba (ad.1 (zo rfl d)) (zba (ae.1 (zo rfl d)) rfl))) ((by have n:=(mq af (zo rfl d));exact z2t (⟨_,⟨_,_,rfl,rfl,⟨_,_,rfl,rfl,(je rfl (E.mono (g.trans k)))⟩⟩,rfl⟩:VRep (qz true true) _ _ (⟨b.1.inputs,b.1.outputs,b.1.rows⟩:Mach)) (⟨_,⟨_,_,rfl,rfl,⟨_,_,rfl,rfl,(je rfl (l.mono ((f.trans g).trans k)))⟩⟩,rfl⟩:VRep (qz false false) _ _ (⟨a.inputs,a.outputs,a.rows⟩:Mach)) n)) (fun _ _ h=>h)) fun ag ah F y=>?_
 replace y:phG (true&&(G3==true)) (phX (.bool (w.getD default))) ag ah:=y;refine ji rfl (uk rfl (fun u=>(y.1 (zo rfl u))) rfl) ?_;let G2:=((((decide (j=0))&&(decide ((m.getD default)=0)))&&(decide ((↑a.rows.length:Int)≤5)))&&(w.getD default));refine ji (v:=(.bool G2)) rfl (zb rfl) ?_;obtain⟨G,ai,c⟩:=zm c
 refine z5a rfl rfl rfl rfl (fun d=>jy (vs:=[]) zp5 rfl ((by have n:=(mq ai (zo rfl d));exact oh  n)) (fun _ _ h=>h)) fun aj ak H z=>?_;replace z:phG (true&&(G2==true)) (phX (.bool (G.getD default))) aj ak:=z;refine ji rfl (uk rfl (fun u=>(z.1 (zo rfl u))) rfl) ?_
 let G1:=(((((decide (j=0))&&(decide ((m.getD default)=0)))&&(decide ((↑a.rows.length:Int)≤5)))&&(w.getD default))&&(G.getD default));refine ji (v:=(.bool G1)) rfl (ni rfl) (z8 (qp ?_));obtain rfl:=Option.some.inj c
 refine q9 (D:=[]) (J:=[box O [(vi b.1.inputs),(vi b.1.outputs),o] 30,box C [(vi a.inputs),(vi a.outputs),e] 30]) (rs:=[.tmp 2]) (vs:=[(.bool G1)]) ((((((s.trans B).trans f).trans g).trans k).trans F).trans H) rfl rfl ⟨rfl,trivial⟩ ?_;exact⟨rfl,rfl⟩
end GV
end Go.Proofs.YtkcccdcloealfaaGreat
