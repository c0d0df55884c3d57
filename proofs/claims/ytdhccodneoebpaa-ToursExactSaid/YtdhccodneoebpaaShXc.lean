import Derived.Test.YtdhccodneoebpaaShWe
import Derived.Test.YtdhccodneoebpaaShXa
import Derived.Test.YtdhccodneoebpaaRows
set_option linter.unusedVariables false
set_option linter.unusedSimpArgs false
set_option linter.unusedSectionVars false
namespace Go.Proofs.Ytdhccodneoebpaa
namespace GV
open _root_.Go.Proofs.Try
open Go.IntWalk
set_option maxRecDepth 100000
set_option maxHeartbeats 20000000
theorem q1n:ZeroOk prog 51 kA2tInti64 (((0:Int),(0:Int)):(Int×Int)) 16:=by
 obtain⟨i,zv,hi,a,c,d,f⟩:=z11 (P:=prog) (e:=51) (zv:=(.agg #[(vi 0),(vi 0)])) (k:=2) (b:=16) (by kernel_rfl);exact⟨i,zv,hi,a,c,d,fun R=>by subst f;exact⟨_,_,rfl,rfl,rfl⟩⟩
theorem z1i{N:Nat}{R:RH}{m:Mach}{q:Value}(W:VRep (jf false false) R q m){r:(List (Int×Int))}(l:ng N m=some r):CallP prog 24 #[q] R (fun v R'=>VRep (tSl false kA2tInti64) R' v r):=by
 refine qo (args:=[q]) func24 rfl rfl fun A=>?_;rw [ng] at l;refine zt (vo (T:=(jf false false)) rfl rfl rfl W fun v1 R3 Z h5 h2=>?_);refine zn vs0 (j5 (zn vs0 (z8 ?_)));obtain⟨C,b,l⟩:=zu l
 refine jb (γ:=(List (Int×Int))×Value×Frag) (rs [3,35]) (fun g=>[(3,g.2.1)]) (fun g=>[g.2.2]++A) (fun g R=>C=g.1∧ORep kA2tInti64 R g.2.2 g.2.1 g.1∧True) ?_ ?_;refine zt (zn (vi 0) (z8 (q9 (z5j ?_))))
 refine kv (γ:=Nat×(List (Int×Int))×Int×Value×Frag) (rs [3,35]) (fun g=>[(3,g.2.2.2.1),(4,(vi g.2.2.1))]) (fun g=>[g.2.2.2.2]++A) (fun g R=>bn N m g.1 g.2.1 g.2.2.1=some C∧ORep kA2tInti64 R g.2.2.2.2 g.2.2.2.1 g.2.1∧True) (fun g=>g.1) (N,[],0,vs0,emp) prm ⟨b,(z1w (T:=kA2tInti64)),trivial⟩ ?_;clear b
 rintro⟨n,s,a,E,F⟩ aF aG f ⟨b,G,_⟩;rcases n with _|n;exact qy b;replace b:bn N m (n+1) s a=some C:=b;rw [bn] at b;refine zy (zt (zl (vi a) (ku rfl pg vv rfl (h2.mono f) fun aH ab=>?_)));refine j4 rfl z3k rfl ab fun aI ac=>?_
 refine zi (qz rfl underlying25 rfl (jd ac)) (zi (jh rfl rfl) (z8 (qa rfl b (fun b=>?_) (fun b=>?_))));refine qc ?_;obtain⟨h,c,b⟩:=zu b
 refine jb (γ:=(List (Int×Int))×Value×Frag) (rs [3,4,5,6,13,35]) (fun g=>[(3,g.2.1)]) (fun g=>[g.2.2]++A) (fun g R=>h=g.1∧ORep kA2tInti64 R g.2.2 g.2.1 g.1∧True) ?_ ?_
 refine q9 (zt (zn (vi 0) (z8 (q9 (kv (γ:=Nat×Int×(List (Int×Int))×Value×Frag) (rs [3,4,5,6,13,35]) (fun g=>[(3,g.2.2.2.1),(5,(vi g.2.1))]) (fun g=>[g.2.2.2.2]++A) (fun g R=>yw N m a g.1 g.2.1 g.2.2.1=some h∧ORep kA2tInti64 R g.2.2.2.2 g.2.2.2.1 g.2.2.1∧True) (fun g=>g.1) (N,0,s,E,F) prm ⟨c,G,trivial⟩ ?_)))))
 clear c;rintro⟨o,d,j,t,H⟩ aJ aK k ⟨c,u,_⟩;rcases o with _|o;exact qy c;replace c:yw N m a (o+1) d j=some h:=c;rw [yw] at c;refine zy (zt (zl (vi d) (ku rfl z3l z1d rfl (h2.mono (f.trans k)) fun aL ad=>?_)))
 refine j4 rfl ty3 rfl ad fun aM ae=>?_;obtain rfl:=qh.1 ae;refine zi (jh rfl rfl) (z8 (qa rfl c (fun c=>?_) (fun c=>?_)));refine qc ?_;obtain⟨x,e,c⟩:=zu c
 refine jb (γ:=(List (Int×Int))×Value×Frag) (rs [3,4,19,35]) (fun g=>[(3,g.2.1)]) (fun g=>[g.2.2]++A) (fun g R=>x=g.1∧ORep kA2tInti64 R g.2.2 g.2.1 g.1∧True) ?_ ?_;refine q9 (zt (ku rfl pg vv rfl (h2.mono (f.trans k)) fun aN af=>?_));refine j4 rfl z3k rfl af fun aO ag=>?_;refine zl (vi a) ?_
 obtain⟨I,e⟩:=ze e;refine yj (i:=a.toNat) rfl zic rfl (jd ag) (zb rfl I.1) (zm I) fun aP ah=>?_;refine j4 rfl zgo rfl ah fun aQ ai=>?_;refine zl (vi d) ?_;obtain⟨K,e⟩:=ze e;refine yj (i:=d.toNat) rfl zj7 rfl (jd ai) (zb rfl K.1) (zm K) fun aR aj=>?_
 refine ku rfl z7j z7b rfl aj fun aS ak=>?_;refine j4 rfl ty3 rfl ak fun aT al=>?_;obtain rfl:=qh.1 al;refine zi (tu rfl rfl) (z8 (qa rfl e (fun e=>?_) (fun e=>?_)))
 refine zq (zl t (zl (vi a) (zl (vi d) (zi (kw (ps:=[(0,(vi a)),(1,(vi d))]) (v:=(.agg #[(vi a),(vi d)])) rfl (fun w=>by kernel_rfl)) (bq (T:=kA2tInti64) (X:=([((a,d):(Int×Int))]:List (Int×Int))) (ps:=[(0,(.agg #[(vi a),(vi d)]))]) (css:=[[(vi a),(vi d)]]) rfl underlying49 q1n rfl rfl (ko ⟨⟨_,_,rfl,rfl,rfl⟩,trivial⟩) rfl rfl (by decide) fun am aU y an=>?_)))))
 refine uk (i:=0) rfl an fun ao p ap=>?_;have aq:VRep (tSl true kA2tInti64) ao am ([((a,d):(Int×Int))]:List (Int×Int)):=(z0l ap y);obtain⟨L,e⟩:=ze e
 refine pz (i:=0) (X:=j) (Y:=([((a,d):(Int×Int))]:List (Int×Int))) rfl underlying49 q1n rfl rfl rfl (u.mono p) (jd (Sub.v (B:=(tSl false kA2tInti64)) (uh Sub.refl (fun _=>rfl)) aq)) L.1 L.2 fun M ar au=>?_;refine zn M (z8 ?_)
 exact⟨dkt,p,jm,((j++([((a,d):(Int×Int))]:List (Int×Int))),M,ar),⟨rfl,trivial⟩,prm,(Option.some.inj e).symm,au,trivial⟩;refine qc ?_;exact⟨dkt,(RH.le.refl _),jm,(j,t,H),⟨rfl,trivial⟩,prm,(Option.some.inj e).symm,u,trivial⟩;rintro⟨x,av,aw⟩ aV aW O ⟨rfl,ax,_⟩;refine zq (zl (vi d) ?_)
 obtain⟨ay,c⟩:=ze c;refine zi (jg rfl rfl ay) (zn (vi (d+1)) (z8 ?_));exact⟨dkt,O,jm,(o,d+1,x,av,aw),Nat.lt_succ_self _,⟨rfl,rfl,trivial⟩,prm,c,ax,trivial⟩;refine jk ?_;exact⟨dkt,k,jm,(j,t,H),⟨rfl,trivial⟩,prm,(Option.some.inj c).symm,u,trivial⟩;rintro⟨h,az,aA⟩ aX aY P ⟨rfl,aB,_⟩
 refine zq (zl (vi a) ?_);obtain⟨aC,b⟩:=ze b;refine zi (jg rfl rfl aC) (zn (vi (a+1)) (z8 ?_));exact⟨dkt,P,jm,(n,h,a+1,az,aA),Nat.lt_succ_self _,⟨rfl,rfl,trivial⟩,prm,b,aB,trivial⟩;refine jk ?_;exact⟨dkt,f,jm,(s,E,F),⟨rfl,trivial⟩,prm,(Option.some.inj b).symm,G,trivial⟩
 rintro⟨C,V,aZ⟩ a0 R7 aD ⟨rfl,aE,_⟩;refine zt (zl V (zn V (z8 (mg (i:=0) rfl aE fun Q z S=>?_))));have U:VRep (tSl false kA2tInti64) Q V C:=(z5z S);refine qw ?_;obtain rfl:=Option.some.inj l;refine qg (D:=[]) (J:=[]) (rs:=[.tmp 2]) (vs:=[V]) ((Z.trans aD).trans z) rfl rfl ⟨rfl,trivial⟩ ?_;exact⟨rfl,U⟩
theorem zy9:Enters prog 24:=enters_of func24 rfl (by kernel_rfl)
theorem q1r:TyOk prog 51 kA2tInti64:=by
 obtain⟨i,hi,a⟩: ∃ i,prog.info? 51=some i∧i.size=2:=jr (by kernel_rfl);exact rz underlying51 hi rfl a
theorem zsu:SlOk prog 49 51 kA2tInti64:=⟨underlying49,q1r⟩
theorem zw2:ArrOk prog 51 2 1:=zmn (e:=3) underlying51 (fun w=>by kernel_rfl)
end GV
end Go.Proofs.Ytdhccodneoebpaa
