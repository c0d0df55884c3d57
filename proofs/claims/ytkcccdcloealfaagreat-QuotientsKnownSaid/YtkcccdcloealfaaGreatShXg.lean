import Derived.Test.YtkcccdcloealfaaGreatShWd
import Derived.Test.YtkcccdcloealfaaGreatShXa
import Derived.Test.YtkcccdcloealfaaGreatShXc
import Derived.Test.YtkcccdcloealfaaGreatShXe
import Derived.Test.YtkcccdcloealfaaGreatRows
set_option linter.unusedVariables false
set_option linter.unusedSimpArgs false
namespace Go.Proofs.YtkcccdcloealfaaGreat
namespace GV
open _root_.Go.Proofs.Tryz
open Go.IntWalk
set_option maxRecDepth 100000
set_option maxHeartbeats 20000000
theorem q5l{a:Bool}:TyOk prog 27 (zcd a):=by
 obtain⟨i,hi,b⟩: ∃ i,prog.info? 27=some i∧i.size=1:=wy (by kernel_rfl);exact z2n underlying27 hi rfl b
theorem q19:FieldOk prog 27 0 0:=by
 obtain⟨i,hi,a⟩: ∃ i,prog.info? 25=some i∧i.size=1:=wy (by kernel_rfl);exact ru underlying27 rfl rfl hi (by rw [a];rfl)
theorem z5y{N:Nat}{R:RH}{x:WDat}{j:Value}(u:VRep (zcd false) R j x){inputs:Int}{r:(List Int)}(d:z0y N x inputs=some r):CallP prog 10 #[j,(vi inputs)] R (fun v R'=>VRep (tSl false (qc .i64)) R' v r):=by
 refine qf (args:=[j,(vi inputs)]) func10 rfl rfl fun A=>?_;rw [z0y] at d;refine zn (ky (T:=(zcd false)) rfl rfl rfl u fun v1 R3 w h5 h2=>?_);refine zf vs0 (qw (zf vs0 (z8 ?_)));obtain⟨l,a,d⟩:=zm d
 refine j6 (γ:=(List Int)×Value×Frag) (rs [5,29]) (fun g=>[(5,g.2.1)]) (fun g=>[g.2.2]++A) (fun g R=>l=g.1∧ORep (qc .i64) R g.2.2 g.2.1 g.1∧True) ?_ ?_;refine zn (zf (vi 0) (z8 (zy (z2j ?_))))
 refine jg (γ:=Nat×(List Int)×Int×Value×Frag) (rs [5,29]) (fun g=>[(5,g.2.2.2.1),(6,(vi g.2.2.1))]) (fun g=>[g.2.2.2.2]++A) (fun g R=>ib N x inputs g.1 g.2.1 g.2.2.1=some l∧ORep (qc .i64) R g.2.2.2.2 g.2.2.2.1 g.2.1∧True) (fun g=>g.1) (N,[],0,vs0,emp) prm ⟨a,(l9 (T:=(qc .i64))),trivial⟩ ?_;clear a
 rintro⟨e,f,b,m,y⟩ ah ai c ⟨a,n,_⟩;rcases e with _|e;exact j4 a;replace a:ib N x inputs (e+1) f b=some l:=a;rw [ib] at a;refine q8 (zn (ji (v:=(vi b)) rfl (zb rfl) (zm0 rfl (ww q19 zqo rfl (h2.mono c)) fun aj z=>?_)))
 refine zm0 rfl (jv q35 rfl z) fun ak C=>?_;refine ji rfl (qj rfl underlying25 rfl (ja C)) (ji rfl (jc rfl rfl) (ji (v:=(.bool (decide (b<(↑x.syms.length:Int))))) rfl (zb rfl) (j5 rfl rfl rfl rfl (fun hB=>qx (v:=(vi b)) (zb rfl)) fun al E=>?_)))
 refine j5 rfl rfl rfl rfl (fun hB=>qx (jc (E.1 (zo rfl hB)) rfl)) fun am F=>?_;refine ji rfl (uk rfl (fun hb=>(F.1 (zo rfl hb))) rfl) (z8 (zw rfl a (fun a=>?_) (fun a=>?_)));refine qa (q8 (zy (zz (zh m (jo rfl q19 zqo rfl (h2.mono c) fun ao G=>?_)))))
 refine qh rfl q35 rfl G fun ap H=>?_;refine zh (vi b) ?_;obtain⟨o,a⟩:=ze a;refine kw (i:=b.toNat) rfl q7k rfl (ja H) (zl rfl o.1) (qb o) fun aq I=>?_;refine qh rfl ty5 rfl I fun ar K=>?_;obtain rfl:=jb.1 K;obtain⟨L,a⟩:=ze a
 refine zq (z3t underlying5 underlying3 rfl L) (zh (vi inputs) ?_);obtain⟨M,a⟩:=ze a
 refine zq (rq rfl rfl M) (rf (T:=(qc .i64)) (X:=([(ix x.syms b)%inputs]:List Int)) (ps:=[(0,(vi ((ix x.syms b)%inputs)))]) (css:=[[(vi ((ix x.syms b)%inputs))]]) rfl underlying32 zo3 rfl rfl (uh ⟨rfl,trivial⟩) rfl rfl (by decide) fun O au k P=>?_);refine wu (i:=0) rfl P fun Q h S=>?_
 have U:VRep (tSl true (qc .i64)) Q O ([(ix x.syms b)%inputs]:List Int):=(z1b S k);obtain⟨p,a⟩:=ze a;refine bu (i:=0) (X:=f) (Y:=([(ix x.syms b)%inputs]:List Int)) rfl underlying32 zo3 rfl rfl rfl (n.mono h) (ja (Sub.v (B:=(tSl false (qc .i64))) (ku Sub.refl (fun _=>rfl)) U)) p.1 p.2 fun q V W=>?_
 refine zf q (z8 (zz (zh (vi b) ?_)));obtain⟨Z,a⟩:=ze a;refine zq (jf rfl rfl Z) (zf (vi (b+1)) (z8 ?_));exact⟨dkt,h,jq,(e,(f++([(ix x.syms b)%inputs]:List Int)),b+1,q,V),Nat.lt_succ_self _,⟨rfl,rfl,trivial⟩,prm,a,W,trivial⟩;refine jm ?_
 exact⟨dkt,c,jq,(f,m,y),⟨rfl,trivial⟩,prm,(Option.some.inj a).symm,n,trivial⟩;rintro⟨l,t,av⟩ aw R7 aa ⟨rfl,ab,_⟩;refine zn (zh t (zf t (z8 (rz (i:=0) rfl ab fun ac s ad=>?_))));have ae:VRep (tSl false (qc .i64)) ac t l:=(z4u ad);refine qp ?_;obtain rfl:=Option.some.inj d
 refine q9 (D:=[]) (J:=[]) (rs:=[.tmp 4]) (vs:=[t]) ((w.trans aa).trans s) rfl rfl ⟨rfl,trivial⟩ ?_;exact⟨rfl,ae⟩
theorem q5r:Enters prog 10:=enters_of func10 rfl (by kernel_rfl)
theorem z1i{N:Nat}{R:RH}{m:Mach}{j:Value}(z:VRep (qz false false) R j m){s:Int}{u:(List Int)}{f:Value}(w:VRep (tSl false (qc .i64)) R f u){r:(List Int)}(o:yg N m s u=some r):CallP prog 15 #[j,(vi s),f] R (fun v R'=>VRep (tSl false (qc .i64)) R' v r):=by
 refine qf (args:=[j,(vi s),f]) func15 rfl rfl fun A=>?_;rw [yg] at o;refine zn (ky (T:=(qz false false)) rfl rfl rfl z fun v1 R3 k h5 h2=>?_);refine zf vs0 (qw (zf vs0 (z8 ?_)));obtain⟨F,a,o⟩:=zm o
 refine j6 (γ:=(List Int)×Value×Frag) (rs [1,2,7,30]) (fun g=>[(7,g.2.1)]) (fun g=>[g.2.2]++A) (fun g R=>F=g.1∧ORep (qc .i64) R g.2.2 g.2.1 g.1∧True) ?_ ?_;refine zn (zf (vi 0) (z8 (zy (z2j ?_))))
 refine jg (γ:=Nat×Int×(List Int)×Int×Value×Frag) (rs [1,2,7,30]) (fun g=>[(1,(vi g.2.1)),(7,g.2.2.2.2.1),(8,(vi g.2.2.2.1))]) (fun g=>[g.2.2.2.2.2]++A) (fun g R=>fq N m u g.1 g.2.1 g.2.2.1 g.2.2.2.1=some F∧ORep (qc .i64) R g.2.2.2.2.2 g.2.2.2.2.1 g.2.2.1∧True) (fun g=>g.1) (N,s,[],0,vs0,emp) prm ⟨a,(l9 (T:=(qc .i64))),trivial⟩ ?_
 clear a;rintro⟨p,q,t,c,G,C⟩ ax ay e ⟨a,H,_⟩;rcases p with _|p;exact j4 a;replace a:fq N m u (p+1) q t c=some F:=a;rw [fq] at a
 refine q8 (zn (zh (vi c) (zh f (zq (qj rfl underlying32 rfl (ja (w.mono (k.trans e)))) (zq (jc rfl rfl) (z8 (zw rfl a (fun a=>?_) (fun a=>?_))))))));refine qa (q8 (zy (q8 ?_)));obtain⟨I,a⟩:=ze a;obtain⟨b,S,a⟩:=zm a
 refine dn 8 [⟨7,[.int .i64 0,.int .i64 0],62⟩] [phX j,phX (vi q),phX f,phX (vi c),phP (qc .i64) (ix u c),phX (vi (ix u c)),phX (ut b),phB] mixed (by kernel_rfl) (yl ⟨zi,zi,zi,zi,xu,zi,zi,zfz,trivial⟩) ⟨?_,?_,?_,?_,?_,?_,?_,?_,trivial⟩ fun az x=>?_;intro l aA d n P
 exact za rfl rfl rfl (zt (jl z19 rfl (n 3 rfl) ((h5.mono e).mono d) ((z.mono (k.trans e)).mono d)));intro l aB d n P;exact za rfl rfl rfl (zt (zb (n 1 rfl)));intro l aC d n P;exact za rfl rfl rfl (zt (zb (n 2 rfl)));intro l aD d n P;exact za rfl rfl rfl (zt (zb (n 8 rfl)))
 rintro l aE d n ⟨K,U,_⟩;exact za rfl rfl rfl (yj (i:=c.toNat) z02 (K rfl) (ja ((w.mono (k.trans e)).mono d)) (zl (U rfl) I.1) (qb I));rintro l aF d n ⟨K,_⟩;exact za rfl rfl rfl (xc (ug ty3 rfl (K rfl)) (fun _ _ h=>jb.1 h));rintro l aG d n ⟨K,U,d2,_⟩;have V:l 16=j:=K rfl
 have W:l 17=(vi q):=U rfl;have C:l 21=(vi (ix u c)):=d2 rfl;exact za rfl rfl rfl (jy (vs:=[j,(vi q),(vi (ix u c))]) q7n (by simp only [List.map,ev,V,W,C]<;>rfl) (z9h ((z.mono (k.trans e)).mono d) S) (fun _ _ h=>h));intro l aI d n P;exact z94 rfl rfl rfl rfl za8
 intro aJ Z aK aa aL ab aM ac aN aO aP ad aQ ae aR af;obtain rfl:=Eq.symm Z;obtain rfl:=Eq.symm aa;obtain rfl:=Eq.symm ab;obtain rfl:=Eq.symm ac;obtain rfl:=Eq.symm ad;obtain rfl:=Eq.symm ae;obtain⟨ag,rfl⟩:=af;refine jd (i:=0) (vs:=[(vi b.to),(vi b.out)]) z6s rfl rfl rfl rfl rfl rfl (zu rfl (zu rfl jh)) ?_
 refine qw (zh G (zq (qd za0 rfl) (zq (qi (i:=0) ag3 rfl rfl rfl) (rf (T:=(qc .i64)) (X:=([b.out]:List Int)) (ps:=[(0,(vi b.out))]) (css:=[[(vi b.out)]]) rfl underlying32 zo3 rfl rfl (uh ⟨rfl,trivial⟩) rfl rfl (by decide) fun ah aS E ai=>?_))));refine wu (i:=0) rfl ai fun aj y ak=>?_
 have al:VRep (tSl true (qc .i64)) aj ah ([b.out]:List Int):=(z1b ak E);obtain⟨L,a⟩:=ze a;refine bu (i:=1) (X:=t) (Y:=([b.out]:List Int)) rfl underlying32 zo3 rfl rfl rfl (H.mono (x.trans y)) (ja (Sub.v (B:=(tSl false (qc .i64))) (ku Sub.refl (fun _=>rfl)) al)) L.1 L.2 fun M am an=>?_
 refine zf M (z8 (zz (zq (qd l5 rfl) (zq (qi (i:=0) ag3 rfl rfl rfl) (zf (vi b.to) (z8 (zz (zh (vi c) ?_))))))));obtain⟨ao,a⟩:=ze a;refine zq (jf rfl rfl ao) (zf (vi (c+1)) (z8 ?_))
 exact⟨dkt,(x.trans y),jq,(p,b.to,(t++([b.out]:List Int)),c+1,M,am),Nat.lt_succ_self _,⟨rfl,rfl,rfl,trivial⟩,⟨[box ag [(vi b.to),(vi b.out)] 62],(List.Perm.refl _)⟩,a,an,trivial⟩;refine jm ?_;exact⟨dkt,e,jq,(t,G,C),⟨rfl,trivial⟩,prm,(Option.some.inj a).symm,H,trivial⟩
 rintro⟨F,Q,aT⟩ aU R7 ap ⟨rfl,aq,_⟩;refine zn (zh Q (zf Q (z8 (rz (i:=0) rfl aq fun ar O au=>?_))));have av:VRep (tSl false (qc .i64)) ar Q F:=(z4u au);refine qp ?_;obtain rfl:=Option.some.inj o;refine q9 (D:=[]) (J:=[]) (rs:=[.tmp 6]) (vs:=[Q]) ((k.trans ap).trans O) rfl rfl ⟨rfl,trivial⟩ ?_;exact⟨rfl,av⟩
theorem zw6:Enters prog 15:=enters_of func15 rfl (by kernel_rfl)
end GV
end Go.Proofs.YtkcccdcloealfaaGreat
