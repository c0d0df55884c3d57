import Derived.Test.YtplgbkaollfmkaaGreatShPlain
import Derived.Test.YtplgbkaollfmkaaGreatRows
set_option linter.unusedVariables false
set_option linter.unusedSimpArgs false
namespace Go.Proofs.YtplgbkaollfmkaaGreat
namespace GV
open _root_.Go.Proofs.Tryz
open Go.IntWalk
set_option maxRecDepth 100000
set_option maxHeartbeats 20000000
theorem ty5:TyOk prog 5 (zu .u8):=by
 obtain⟨i,hi,a⟩: ∃ i,prog.info? 5=some i∧i.size=1:=jr (by kernel_rfl);exact z2n underlying5 hi rfl a
theorem zo3:ZeroOk prog 3 (zu .i64) (0:Int) 8:=by
 obtain⟨i,zv,hi,a,c,d,f⟩:=z6d (P:=prog) (e:=3) (zv:=(vi 0)) (k:=1) (b:=8) (by kernel_rfl);exact⟨i,zv,hi,a,c,d,fun R=>by subst f;exact rfl⟩
theorem q8w:SlOk prog 22 5 (zu .u8):=⟨underlying22,ty5⟩
theorem za7{N:Nat}{R:RH}{d:(List Int)}{c:Value}(j:VRep (tSl false (zu .u8)) R c d){inputs:Int}{most:Int}{r:(List Int)}(f:z0n N d inputs most=some r):CallP prog 7 #[c,(vi inputs),(vi most)] R (fun v R'=>VRep (tSl false (zu .i64)) R' v r):=by
 refine qg (args:=[c,(vi inputs),(vi most)]) func7 rfl rfl fun A=>?_;rw [z0n] at f;refine zl (zi vs0 (qw (zi vs0 (z8 ?_))));obtain⟨m,a,f⟩:=zq f
 refine ql (γ:=(List Int)×Value×Frag) (rs [7,30]) (fun g=>[(7,g.2.1)]) (fun g=>[g.2.2]++A) (fun g R=>m=g.1∧ORep (zu .i64) R g.2.2 g.2.1 g.1∧True) ?_ ?_;refine zl (zi (vi 0) (z8 (zx (z1g ?_))))
 refine j5 (γ:=Nat×(List Int)×Int×Value×Frag) (rs [7,30]) (fun g=>[(7,g.2.2.2.1),(8,(vi g.2.2.1))]) (fun g=>[g.2.2.2.2]++A) (fun g R=>ic N d inputs most g.1 g.2.1 g.2.2.1=some m∧ORep (zu .i64) R g.2.2.2.2 g.2.2.2.1 g.2.1∧True) (fun g=>g.1) (N,[],0,vs0,emp) prm ⟨a,(iy (T:=(zu .i64))),trivial⟩ ?_
 clear a;rintro⟨u,h,b,n,y⟩ ab ac e ⟨a,o,_⟩;rcases u with _|u;exact qp a;replace a:ic N d inputs most (u+1) h b=some m:=a;rw [ic] at a
 refine q9 (zl (u7 (v:=(vi b)) rfl (zf rfl) (u7 (v:=c) rfl (zf rfl) (u7 rfl (qi rfl underlying22 rfl (qz (j.mono e))) (u7 rfl (j3 rfl rfl) (u7 (v:=(.bool (decide (b<(↑d.length:Int))))) rfl (zf rfl) (jf rfl rfl rfl rfl (fun w=>jh (v:=(vi b)) (zf rfl)) fun ad z=>?_)))))))
 refine jf rfl rfl rfl rfl (fun w=>jh (v:=(vi most)) (zf rfl)) fun ae C=>?_;refine jf rfl rfl rfl rfl (fun w=>jh (j3 (z.1 (zt rfl w)) (C.1 (zt rfl w)))) fun af E=>?_;refine u7 rfl (xz rfl (fun hb=>(E.1 (zt rfl hb))) rfl) (z8 (zw rfl a (fun a=>?_) (fun a=>?_)))
 refine qa (q9 (zx (zy (zg n (zg c (zg (vi b) ?_))))));obtain⟨p,a⟩:=zb a;refine kw (i:=b.toNat) rfl q8w rfl (qz (j.mono e)) (ze rfl p.1) (zz p) fun ah F=>?_;refine qh rfl ty5 rfl F fun ai G=>?_;obtain rfl:=j6.1 G;obtain⟨H,a⟩:=zb a
 refine zo (z4w underlying5 underlying3 rfl H) (zg (vi inputs) ?_);obtain⟨I,a⟩:=zb a
 refine zo (z2t rfl rfl I) (mf (T:=(zu .i64)) (X:=([(ix d b)%inputs]:List Int)) (ps:=[(0,(vi ((ix d b)%inputs)))]) (css:=[[(vi ((ix d b)%inputs))]]) rfl underlying33 zo3 rfl rfl (kv ⟨rfl,trivial⟩) rfl rfl (by decide) fun K aj l L=>?_);refine ui (i:=0) rfl L fun M k O=>?_
 have P:VRep (tSl true (zu .i64)) M K ([(ix d b)%inputs]:List Int):=(z1d O l);obtain⟨q,a⟩:=zb a;refine wh (i:=0) (X:=h) (Y:=([(ix d b)%inputs]:List Int)) rfl underlying33 zo3 rfl rfl rfl (o.mono k) (qz (Sub.v (B:=(tSl false (zu .i64))) (u6 Sub.refl (fun _=>rfl)) P)) q.1 q.2 fun s Q S=>?_
 refine zi s (z8 (zy (zg (vi b) ?_)));obtain⟨U,a⟩:=zb a;refine zo (j4 rfl rfl U) (zi (vi (b+1)) (z8 ?_));exact⟨dkt,k,je,(u,(h++([(ix d b)%inputs]:List Int)),b+1,s,Q),Nat.lt_succ_self _,⟨rfl,rfl,trivial⟩,prm,a,S,trivial⟩;refine jd ?_
 exact⟨dkt,e,je,(h,n,y),⟨rfl,trivial⟩,prm,(Option.some.inj a).symm,o,trivial⟩;rintro⟨m,x,f5⟩ ak R2 V ⟨rfl,h6,_⟩;refine zl (zg x (zi x (z8 (yj (i:=0) rfl h6 fun W t Z=>?_))));have aa:VRep (tSl false (zu .i64)) W x m:=(z3g Z);refine qx ?_;obtain rfl:=Option.some.inj f
 refine qd (D:=[]) (J:=[]) (rs:=[.tmp 6]) (vs:=[x]) (V.trans t) rfl rfl ⟨rfl,trivial⟩ ?_;exact⟨rfl,aa⟩
end GV
end Go.Proofs.YtplgbkaollfmkaaGreat
