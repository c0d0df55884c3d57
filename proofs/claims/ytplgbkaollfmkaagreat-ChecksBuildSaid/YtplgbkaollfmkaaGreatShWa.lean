import Derived.Test.YtplgbkaollfmkaaGreatShPlain
import Derived.Test.YtplgbkaollfmkaaGreatRows
set_option linter.unusedVariables false
set_option linter.unusedSimpArgs false
namespace Go.Proofs.YtplgbkaollfmkaaGreat
namespace GV
open _root_.Go.Proofs.Tryz
open Go.IntWalk
set_option maxRecDepth 100000
set_option maxHeartbeats 20000000
theorem ty5:TyOk prog 5 (zw .u8):=by
 obtain⟨i,hi,a⟩: ∃ i,prog.info? 5=some i∧i.size=1:=ky (by kernel_rfl);exact z4t underlying5 hi rfl a
theorem zo3:ZeroOk prog 3 (zw .i64) (0:Int) 8:=by
 obtain⟨i,zv,hi,a,c,d,f⟩:=z6b (P:=prog) (e:=3) (zv:=(vi 0)) (k:=1) (b:=8) (by kernel_rfl);exact⟨i,zv,hi,a,c,d,fun R=>by subst f;exact rfl⟩
theorem q90:SlOk prog 22 5 (zw .u8):=⟨underlying22,ty5⟩
theorem z9p{N:Nat}{R:RH}{d:(List Int)}{c:Value}(j:VRep (tSl false (zw .u8)) R c d){inputs:Int}{most:Int}{r:(List Int)}(f:z01 N d inputs most=some r):CallP prog 7 #[c,(vi inputs),(vi most)] R (fun v R'=>VRep (tSl false (zw .i64)) R' v r):=by
 refine qf (args:=[c,(vi inputs),(vi most)]) func7 rfl rfl fun A=>?_;rw [z01] at f;refine zn (zi vs0 (qw (zi vs0 (z8 ?_))));obtain⟨m,a,f⟩:=zq f
 refine qm (γ:=(List Int)×Value×Frag) (rs [7,30]) (fun g=>[(7,g.2.1)]) (fun g=>[g.2.2]++A) (fun g R=>m=g.1∧ORep (zw .i64) R g.2.2 g.2.1 g.1∧True) ?_ ?_;refine zn (zi (vi 0) (z8 (zy (z2m ?_))))
 refine ja (γ:=Nat×(List Int)×Int×Value×Frag) (rs [7,30]) (fun g=>[(7,g.2.2.2.1),(8,(vi g.2.2.1))]) (fun g=>[g.2.2.2.2]++A) (fun g R=>ak N d inputs most g.1 g.2.1 g.2.2.1=some m∧ORep (zw .i64) R g.2.2.2.2 g.2.2.2.1 g.2.1∧True) (fun g=>g.1) (N,[],0,vs0,emp) prm ⟨a,(ru (T:=(zw .i64))),trivial⟩ ?_
 clear a;rintro⟨u,h,b,n,y⟩ ab ac e ⟨a,o,_⟩;rcases u with _|u;exact qp a;replace a:ak N d inputs most (u+1) h b=some m:=a;rw [ak] at a
 refine qa (zn (jm (v:=(vi b)) rfl (zb rfl) (jm (v:=c) rfl (zb rfl) (jm rfl (qj rfl underlying22 rfl (j3 (j.mono e))) (jm rfl (j5 rfl rfl) (jm (v:=(.bool (decide (b<(↑d.length:Int))))) rfl (zb rfl) (j4 rfl rfl rfl rfl (fun w=>qy (v:=(vi b)) (zb rfl)) fun ad z=>?_)))))))
 refine j4 rfl rfl rfl rfl (fun w=>qy (v:=(vi most)) (zb rfl)) fun ae C=>?_;refine j4 rfl rfl rfl rfl (fun w=>qy (j5 (z.1 (zm rfl w)) (C.1 (zm rfl w)))) fun af E=>?_;refine jm rfl (wu rfl (fun hb=>(E.1 (zm rfl hb))) rfl) (z8 (zu rfl a (fun a=>?_) (fun a=>?_)))
 refine q9 (qa (zy (zx (zg n (zg c (zg (vi b) ?_))))));obtain⟨p,a⟩:=ze a;refine ko (i:=b.toNat) rfl q90 rfl (j3 (j.mono e)) (zf rfl p.1) (zz p) fun ah F=>?_;refine qo rfl ty5 rfl F fun ai G=>?_;obtain rfl:=j6.1 G;obtain⟨H,a⟩:=ze a
 refine zt (z9c underlying5 underlying3 rfl H) (zg (vi inputs) ?_);obtain⟨I,a⟩:=ze a
 refine zt (z5z rfl rfl I) (nk (T:=(zw .i64)) (X:=([(ix d b)%inputs]:List Int)) (ps:=[(0,(vi ((ix d b)%inputs)))]) (css:=[[(vi ((ix d b)%inputs))]]) rfl underlying33 zo3 rfl rfl (kw ⟨rfl,trivial⟩) rfl rfl (by decide) fun K aj l L=>?_);refine ug (i:=0) rfl L fun M k O=>?_
 have P:VRep (tSl true (zw .i64)) M K ([(ix d b)%inputs]:List Int):=(z1s O l);obtain⟨q,a⟩:=ze a;refine wh (i:=0) (X:=h) (Y:=([(ix d b)%inputs]:List Int)) rfl underlying33 zo3 rfl rfl rfl (o.mono k) (j3 (Sub.v (B:=(tSl false (zw .i64))) (kv Sub.refl (fun _=>rfl)) P)) q.1 q.2 fun s Q S=>?_
 refine zi s (z8 (zx (zg (vi b) ?_)));obtain⟨U,a⟩:=ze a;refine zt (qz rfl rfl U) (zi (vi (b+1)) (z8 ?_));exact⟨dkt,k,jd,(u,(h++([(ix d b)%inputs]:List Int)),b+1,s,Q),Nat.lt_succ_self _,⟨rfl,rfl,trivial⟩,prm,a,S,trivial⟩;refine jf ?_
 exact⟨dkt,e,jd,(h,n,y),⟨rfl,trivial⟩,prm,(Option.some.inj a).symm,o,trivial⟩;rintro⟨m,x,f5⟩ al R2 V ⟨rfl,h6,_⟩;refine zn (zg x (zi x (z8 (vo (i:=0) rfl h6 fun W t Z=>?_))));have aa:VRep (tSl false (zw .i64)) W x m:=(z4s Z);refine qx ?_;obtain rfl:=Option.some.inj f
 refine qc (D:=[]) (J:=[]) (rs:=[.tmp 6]) (vs:=[x]) (V.trans t) rfl rfl ⟨rfl,trivial⟩ ?_;exact⟨rfl,aa⟩
end GV
end Go.Proofs.YtplgbkaollfmkaaGreat
