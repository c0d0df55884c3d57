import Derived.Test.YtplgbkaollfmkaaShWa
import Derived.Test.YtplgbkaollfmkaaShXf
import Derived.Test.YtplgbkaollfmkaaRows
set_option linter.unusedVariables false
set_option linter.unusedSimpArgs false
namespace Go.Proofs.Ytplgbkaollfmkaa
namespace GV
open _root_.Go.Proofs.Try
open Go.IntWalk
set_option maxRecDepth 100000
set_option maxHeartbeats 20000000
theorem z8q{N:Nat}{R:RH}{d:(List Int)}{c:Value}(j:VRep (tSl false (zx .u8)) R c d){inputs:Int}{most:Int}{r:(List Int)}(f:lc N d inputs most=some r):CallP prog 16 #[c,(vi inputs),(vi most)] R (fun v R'=>VRep (tSl false (zx .i64)) R' v r):=by
 refine qd (args:=[c,(vi inputs),(vi most)]) func16 rfl rfl fun A=>?_;rw [lc] at f;refine zi (zh vs0 (qw (zh vs0 (z8 ?_))));obtain⟨m,a,f⟩:=zt f
 refine ql (γ:=(List Int)×Value×Frag) (rs [7,30]) (fun g=>[(7,g.2.1)]) (fun g=>[g.2.2]++A) (fun g R=>m=g.1∧ORep (zx .i64) R g.2.2 g.2.1 g.1∧True) ?_ ?_;refine zi (zh (vi 0) (z8 (zw (z1t ?_))))
 refine ja (γ:=Nat×(List Int)×Int×Value×Frag) (rs [7,30]) (fun g=>[(7,g.2.2.2.1),(8,(vi g.2.2.1))]) (fun g=>[g.2.2.2.2]++A) (fun g R=>mq N d inputs most g.1 g.2.1 g.2.2.1=some m∧ORep (zx .i64) R g.2.2.2.2 g.2.2.2.1 g.2.1∧True) (fun g=>g.1) (N,[],0,vs0,emp) prm ⟨a,(ry (T:=(zx .i64))),trivial⟩ ?_
 clear a;rintro⟨u,h,b,n,y⟩ ab ac e ⟨a,o,_⟩;rcases u with _|u;exact qp a;replace a:mq N d inputs most (u+1) h b=some m:=a;rw [mq] at a
 refine q9 (zi (jo (v:=(vi b)) rfl (zb rfl) (jo (v:=c) rfl (zb rfl) (jo rfl (qi rfl underlying41 rfl (qy (j.mono e))) (jo rfl (j3 rfl rfl) (jo (v:=(.bool (decide (b<(↑d.length:Int))))) rfl (zb rfl) (j6 rfl rfl rfl rfl (fun w=>j4 (v:=(vi b)) (zb rfl)) fun ad z=>?_)))))))
 refine j6 rfl rfl rfl rfl (fun w=>j4 (v:=(vi most)) (zb rfl)) fun ae C=>?_;refine j6 rfl rfl rfl rfl (fun w=>j4 (j3 (z.1 (zn rfl w)) (C.1 (zn rfl w)))) fun af E=>?_;refine jo rfl (vk rfl (fun hb=>(E.1 (zn rfl hb))) rfl) (z8 (zu rfl a (fun a=>?_) (fun a=>?_)))
 refine q8 (q9 (zw (zy (zg n (zg c (zg (vi b) ?_))))));obtain⟨p,a⟩:=zf a;refine jv (i:=b.toNat) rfl q4o rfl (qy (j.mono e)) (ze rfl p.1) (zz p) fun ah F=>?_;refine qh rfl ty5 rfl F fun ai G=>?_;obtain rfl:=j5.1 G;obtain⟨H,a⟩:=zf a
 refine zo (z7s underlying5 underlying3 rfl H) (zg (vi inputs) ?_);obtain⟨I,a⟩:=zf a
 refine zo (z5l rfl rfl I) (oq (T:=(zx .i64)) (X:=([(ix d b)%inputs]:List Int)) (ps:=[(0,(vi ((ix d b)%inputs)))]) (css:=[[(vi ((ix d b)%inputs))]]) rfl underlying25 zo3 rfl rfl (kw ⟨rfl,trivial⟩) rfl rfl (by decide) fun K aj l L=>?_);refine uj (i:=0) rfl L fun M k O=>?_
 have P:VRep (tSl true (zx .i64)) M K ([(ix d b)%inputs]:List Int):=(z1d O l);obtain⟨q,a⟩:=zf a;refine yz (i:=0) (X:=h) (Y:=([(ix d b)%inputs]:List Int)) rfl underlying25 zo3 rfl rfl rfl (o.mono k) (qy (Sub.v (B:=(tSl false (zx .i64))) (ku Sub.refl (fun _=>rfl)) P)) q.1 q.2 fun s Q S=>?_
 refine zh s (z8 (zy (zg (vi b) ?_)));obtain⟨U,a⟩:=zf a;refine zo (qz rfl rfl U) (zh (vi (b+1)) (z8 ?_));exact⟨dkt,k,jd,(u,(h++([(ix d b)%inputs]:List Int)),b+1,s,Q),Nat.lt_succ_self _,⟨rfl,rfl,trivial⟩,prm,a,S,trivial⟩;refine jf ?_
 exact⟨dkt,e,jd,(h,n,y),⟨rfl,trivial⟩,prm,(Option.some.inj a).symm,o,trivial⟩;rintro⟨m,x,f5⟩ ak R2 V ⟨rfl,h6,_⟩;refine zi (zg x (zh x (z8 (yf (i:=0) rfl h6 fun W t Z=>?_))));have aa:VRep (tSl false (zx .i64)) W x m:=(z5a Z);refine qm ?_;obtain rfl:=Option.some.inj f
 refine qa (D:=[]) (J:=[]) (rs:=[.tmp 6]) (vs:=[x]) (V.trans t) rfl rfl ⟨rfl,trivial⟩ ?_;exact⟨rfl,aa⟩
end GV
end Go.Proofs.Ytplgbkaollfmkaa
