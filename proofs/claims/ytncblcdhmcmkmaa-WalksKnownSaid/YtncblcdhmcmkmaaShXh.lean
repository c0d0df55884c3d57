import Derived.Test.YtncblcdhmcmkmaaShWd
import Derived.Test.YtncblcdhmcmkmaaShXa
import Derived.Test.YtncblcdhmcmkmaaShXb
import Derived.Test.YtncblcdhmcmkmaaShXc
import Derived.Test.YtncblcdhmcmkmaaShXd
import Derived.Test.YtncblcdhmcmkmaaShXe
import Derived.Test.YtncblcdhmcmkmaaRows
set_option linter.unusedVariables false
set_option linter.unusedSimpArgs false
namespace Go.Proofs.Ytncblcdhmcmkmaa
namespace GV
open _root_.Go.Proofs.Try
open Go.IntWalk
set_option maxRecDepth 100000
set_option maxHeartbeats 20000000
theorem zuz{a:Bool}:TyOk prog 54 (zak a):=by
 obtain⟨i,hi,b⟩: ∃ i,prog.info? 54=some i∧i.size=1:=wu (by kernel_rfl);exact z1c underlying54 hi rfl b
theorem zpz:FieldOk prog 54 0 0:=by
 obtain⟨i,hi,a⟩: ∃ i,prog.info? 52=some i∧i.size=1:=wu (by kernel_rfl);exact o8 underlying54 rfl rfl hi (by rw [a];rfl)
theorem z5h{N:Nat}{R:RH}{x:WDat}{j:Value}(u:VRep (zak false) R j x){inputs:Int}{r:(List Int)}(d:z0a N x inputs=some r):CallP prog 22 #[j,(vi inputs)] R (fun v R'=>VRep (tSl false (zw .i64)) R' v r):=by
 refine ql (args:=[j,(vi inputs)]) func22 rfl rfl fun A=>?_;rw [z0a] at d;refine zn (uj (T:=(zak false)) rfl rfl rfl u fun v1 R3 w h5 h2=>?_);refine zi vs0 (jd (zi vs0 (za ?_)));obtain⟨l,a,d⟩:=zk d
 refine je (γ:=(List Int)×Value×Frag) (rs [5,29]) (fun g=>[(5,g.2.1)]) (fun g=>[g.2.2]++A) (fun g R=>l=g.1∧ORep (zw .i64) R g.2.2 g.2.1 g.1∧True) ?_ ?_;refine zn (zi (vi 0) (za (qc (z1z ?_))))
 refine jq (γ:=Nat×(List Int)×Int×Value×Frag) (rs [5,29]) (fun g=>[(5,g.2.2.2.1),(6,(vi g.2.2.1))]) (fun g=>[g.2.2.2.2]++A) (fun g R=>ny N x inputs g.1 g.2.1 g.2.2.1=some l∧ORep (zw .i64) R g.2.2.2.2 g.2.2.2.1 g.2.1∧True) (fun g=>g.1) (N,[],0,vs0,emp) prm ⟨a,(l8 (T:=(zw .i64))),trivial⟩ ?_;clear a
 rintro⟨e,f,b,m,y⟩ ah ai c ⟨a,n,_⟩;rcases e with _|e;exact jf a;replace a:ny N x inputs (e+1) f b=some l:=a;rw [ny] at a;refine q8 (zn (qi (v:=(vi b)) rfl (z8 rfl) (zbj rfl (uk zpz zid rfl (h2.mono c)) fun aj z=>?_)))
 refine zbj rfl (j5 zs4 rfl z) fun ak C=>?_;refine qi rfl (qh rfl underlying52 rfl (j4 C)) (qi rfl (jh rfl rfl) (qi (v:=(.bool (decide (b<(↑x.syms.length:Int))))) rfl (z8 rfl) (zu rfl rfl rfl rfl (fun hB=>zo (v:=(vi b)) (z8 rfl)) fun al E=>?_)))
 refine zu rfl rfl rfl rfl (fun hB=>zo (jh (E.1 (zf rfl hB)) rfl)) fun am F=>?_;refine qi rfl (vk rfl (fun hb=>(F.1 (zf rfl hb))) rfl) (za (zz rfl a (fun a=>?_) (fun a=>?_)));refine qg (q8 (qc (qf (zl m (jy rfl zpz zid rfl (h2.mono c) fun ao G=>?_)))))
 refine qp rfl zs4 rfl G fun ap H=>?_;refine zl (vi b) ?_;obtain⟨o,a⟩:=ze a;refine ky (i:=b.toNat) rfl zrg rfl (j4 H) (zg rfl o.1) (qb o) fun aq I=>?_;refine qp rfl ty5 rfl I fun ar K=>?_;obtain rfl:=jc.1 K;obtain⟨L,a⟩:=ze a
 refine zq (ib underlying5 underlying3 rfl L) (zl (vi inputs) ?_);obtain⟨M,a⟩:=ze a
 refine zq (oo rfl rfl M) (ax (T:=(zw .i64)) (X:=([(ix x.syms b)%inputs]:List Int)) (ps:=[(0,(vi ((ix x.syms b)%inputs)))]) (css:=[[(vi ((ix x.syms b)%inputs))]]) rfl underlying36 zo3 rfl rfl (kg ⟨rfl,trivial⟩) rfl rfl (by decide) fun O au k P=>?_);refine ww (i:=0) rfl P fun Q h S=>?_
 have U:VRep (tSl true (zw .i64)) Q O ([(ix x.syms b)%inputs]:List Int):=(z1b S k);obtain⟨p,a⟩:=ze a;refine dw (i:=0) (X:=f) (Y:=([(ix x.syms b)%inputs]:List Int)) rfl underlying36 zo3 rfl rfl rfl (n.mono h) (j4 (Sub.v (B:=(tSl false (zw .i64))) (jk Sub.refl (fun _=>rfl)) U)) p.1 p.2 fun q V W=>?_
 refine zi q (za (qf (zl (vi b) ?_)));obtain⟨Z,a⟩:=ze a;refine zq (jl rfl rfl Z) (zi (vi (b+1)) (za ?_));exact⟨dkt,h,uf,(e,(f++([(ix x.syms b)%inputs]:List Int)),b+1,q,V),Nat.lt_succ_self _,⟨rfl,rfl,trivial⟩,prm,a,W,trivial⟩;refine kv ?_
 exact⟨dkt,c,uf,(f,m,y),⟨rfl,trivial⟩,prm,(Option.some.inj a).symm,n,trivial⟩;rintro⟨l,t,av⟩ aw R7 aa ⟨rfl,ab,_⟩;refine zn (zl t (zi t (za (lh (i:=0) rfl ab fun ac s ad=>?_))));have ae:VRep (tSl false (zw .i64)) ac t l:=(z3l ad);refine qw ?_;obtain rfl:=Option.some.inj d
 refine qd (D:=[]) (J:=[]) (rs:=[.tmp 4]) (vs:=[t]) ((w.trans aa).trans s) rfl rfl ⟨rfl,trivial⟩ ?_;exact⟨rfl,ae⟩
theorem zv3:Enters prog 22:=enters_of func22 rfl (by kernel_rfl)
theorem z1n{N:Nat}{R:RH}{m:Mach}{j:Value}(z:VRep (qy false false) R j m){s:Int}{u:(List Int)}{f:Value}(w:VRep (tSl false (zw .i64)) R f u){r:(List Int)}(o:bq N m s u=some r):CallP prog 27 #[j,(vi s),f] R (fun v R'=>VRep (tSl false (zw .i64)) R' v r):=by
 refine ql (args:=[j,(vi s),f]) func27 rfl rfl fun A=>?_;rw [bq] at o;refine zn (uj (T:=(qy false false)) rfl rfl rfl z fun v1 R3 k h5 h2=>?_);refine zi vs0 (jd (zi vs0 (za ?_)));obtain⟨F,a,o⟩:=zk o
 refine je (γ:=(List Int)×Value×Frag) (rs [1,2,7,30]) (fun g=>[(7,g.2.1)]) (fun g=>[g.2.2]++A) (fun g R=>F=g.1∧ORep (zw .i64) R g.2.2 g.2.1 g.1∧True) ?_ ?_;refine zn (zi (vi 0) (za (qc (z1z ?_))))
 refine jq (γ:=Nat×Int×(List Int)×Int×Value×Frag) (rs [1,2,7,30]) (fun g=>[(1,(vi g.2.1)),(7,g.2.2.2.2.1),(8,(vi g.2.2.2.1))]) (fun g=>[g.2.2.2.2.2]++A) (fun g R=>mr N m u g.1 g.2.1 g.2.2.1 g.2.2.2.1=some F∧ORep (zw .i64) R g.2.2.2.2.2 g.2.2.2.2.1 g.2.2.1∧True) (fun g=>g.1) (N,s,[],0,vs0,emp) prm ⟨a,(l8 (T:=(zw .i64))),trivial⟩ ?_
 clear a;rintro⟨p,q,t,c,G,C⟩ ay az e ⟨a,H,_⟩;rcases p with _|p;exact jf a;replace a:mr N m u (p+1) q t c=some F:=a;rw [mr] at a
 refine q8 (zn (zl (vi c) (zl f (zq (qh rfl underlying36 rfl (j4 (w.mono (k.trans e)))) (zq (jh rfl rfl) (za (zz rfl a (fun a=>?_) (fun a=>?_))))))));refine qg (q8 (qc (q8 ?_)));obtain⟨I,a⟩:=ze a;obtain⟨b,S,a⟩:=zk a
 refine tq 8 [⟨7,[.int .i64 0,.int .i64 0],49⟩] [phX j,phX (vi q),phX f,phX (vi c),phP (zw .i64) (ix u c),phX (vi (ix u c)),phX (uz b),phB] mixed (by kernel_rfl) (di ⟨zm,zm,zm,zm,ik,zm,zm,zhq,trivial⟩) ⟨?_,?_,?_,?_,?_,?_,?_,?_,trivial⟩ fun aA x=>?_;intro l aB d n P
 exact zb rfl rfl rfl (zt (jr z1x rfl (n 3 rfl) ((h5.mono e).mono d) ((z.mono (k.trans e)).mono d)));intro l aC d n P;exact zb rfl rfl rfl (zt (z8 (n 1 rfl)));intro l aD d n P;exact zb rfl rfl rfl (zt (z8 (n 2 rfl)));intro l aE d n P;exact zb rfl rfl rfl (zt (z8 (n 8 rfl)))
 rintro l aF d n ⟨K,U,_⟩;exact zb rfl rfl rfl (ig (i:=c.toNat) z0k (K rfl) (j4 ((w.mono (k.trans e)).mono d)) (zg (U rfl) I.1) (qb I));rintro l aG d n ⟨K,_⟩;exact zb rfl rfl rfl (mq (xn ty3 rfl (K rfl)) (fun _ _ h=>jc.1 h));rintro l aH d n ⟨K,U,d2,_⟩;have V:l 16=j:=K rfl
 have W:l 17=(vi q):=U rfl;have C:l 21=(vi (ix u c)):=d2 rfl;exact zb rfl rfl rfl (ja (vs:=[j,(vi q),(vi (ix u c))]) zv6 (by simp only [List.map,ev,V,W,C]<;>rfl) (z5g ((z.mono (k.trans e)).mono d) S) (fun _ _ h=>h));intro l aJ d n P;exact z9z rfl rfl rfl rfl zgz
 intro aK Z aL aa aM ab aN ac aO aP aQ ad aR ae aS af;obtain rfl:=Eq.symm Z;obtain rfl:=Eq.symm aa;obtain rfl:=Eq.symm ab;obtain rfl:=Eq.symm ac;obtain rfl:=Eq.symm ad;obtain rfl:=Eq.symm ae;obtain⟨ag,rfl⟩:=af;refine jv (i:=0) (vs:=[(vi b.to),(vi b.out)]) zac rfl rfl rfl rfl rfl rfl (zy rfl (zy rfl uh)) ?_
 refine jd (zl G (zq (j3 z9m rfl) (zq (qz (i:=0) ag3 rfl rfl rfl) (ax (T:=(zw .i64)) (X:=([b.out]:List Int)) (ps:=[(0,(vi b.out))]) (css:=[[(vi b.out)]]) rfl underlying36 zo3 rfl rfl (kg ⟨rfl,trivial⟩) rfl rfl (by decide) fun ah aT E ai=>?_))));refine ww (i:=0) rfl ai fun aj y ak=>?_
 have al:VRep (tSl true (zw .i64)) aj ah ([b.out]:List Int):=(z1b ak E);obtain⟨L,a⟩:=ze a;refine dw (i:=1) (X:=t) (Y:=([b.out]:List Int)) rfl underlying36 zo3 rfl rfl rfl (H.mono (x.trans y)) (j4 (Sub.v (B:=(tSl false (zw .i64))) (jk Sub.refl (fun _=>rfl)) al)) L.1 L.2 fun M am an=>?_
 refine zi M (za (qf (zq (j3 z1w rfl) (zq (qz (i:=0) ag3 rfl rfl rfl) (zi (vi b.to) (za (qf (zl (vi c) ?_))))))));obtain⟨ao,a⟩:=ze a;refine zq (jl rfl rfl ao) (zi (vi (c+1)) (za ?_))
 exact⟨dkt,(x.trans y),uf,(p,b.to,(t++([b.out]:List Int)),c+1,M,am),Nat.lt_succ_self _,⟨rfl,rfl,rfl,trivial⟩,⟨[box ag [(vi b.to),(vi b.out)] 49],(List.Perm.refl _)⟩,a,an,trivial⟩;refine kv ?_;exact⟨dkt,e,uf,(t,G,C),⟨rfl,trivial⟩,prm,(Option.some.inj a).symm,H,trivial⟩
 rintro⟨F,Q,aU⟩ aV R7 ap ⟨rfl,aq,_⟩;refine zn (zl Q (zi Q (za (lh (i:=0) rfl aq fun ar O au=>?_))));have av:VRep (tSl false (zw .i64)) ar Q F:=(z3l au);refine qw ?_;obtain rfl:=Option.some.inj o;refine qd (D:=[]) (J:=[]) (rs:=[.tmp 6]) (vs:=[Q]) ((k.trans ap).trans O) rfl rfl ⟨rfl,trivial⟩ ?_;exact⟨rfl,av⟩
theorem zs6:Enters prog 27:=enters_of func27 rfl (by kernel_rfl)
end GV
end Go.Proofs.Ytncblcdhmcmkmaa
