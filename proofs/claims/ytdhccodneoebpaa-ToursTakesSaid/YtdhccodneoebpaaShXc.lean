import Derived.Test.YtdhccodneoebpaaShWe
import Derived.Test.YtdhccodneoebpaaShXa
import Derived.Test.YtdhccodneoebpaaRows
set_option linter.unusedVariables false
set_option linter.unusedSimpArgs false
set_option linter.unusedSectionVars false
namespace Go.Proofs.Ytdhccodneoebpaa
namespace GV
open _root_.Go.Proofs.Try
open Go.IntWalk
set_option maxRecDepth 100000
set_option maxHeartbeats 20000000
theorem zxj:ZeroOk prog 51 kA2tInti64 (((0:Int),(0:Int)):(Int×Int)) 16:=by
 obtain⟨i,zv,hi,a,c,d,f⟩:=z1c (P:=prog) (e:=51) (zv:=(.agg #[(vi 0),(vi 0)])) (k:=2) (b:=16) (by kernel_rfl);exact⟨i,zv,hi,a,c,d,fun R=>by subst f;exact⟨_,_,rfl,rfl,rfl⟩⟩
theorem zac{N:Nat}{R:RH}{m:Mach}{q:Value}(W:VRep (jl false false) R q m){r:(List (Int×Int))}(l:z07 N m=some r):CallP prog 24 #[q] R (fun v R'=>VRep (tSl false kA2tInti64) R' v r):=by
 refine qo (args:=[q]) func24 rfl rfl fun A=>?_;rw [z07] at l;refine zl (uz (T:=(jl false false)) rfl rfl rfl W fun v1 R3 Z h5 h2=>?_);refine zk vs0 (j4 (zk vs0 (z8 ?_)));obtain⟨C,b,l⟩:=zn l
 refine j6 (γ:=(List (Int×Int))×Value×Frag) (rs [3,35]) (fun g=>[(3,g.2.1)]) (fun g=>[g.2.2]++A) (fun g R=>C=g.1∧ORep kA2tInti64 R g.2.2 g.2.1 g.1∧True) ?_ ?_;refine zl (zk (vi 0) (z8 (zy (z4n ?_))))
 refine kg (γ:=Nat×(List (Int×Int))×Int×Value×Frag) (rs [3,35]) (fun g=>[(3,g.2.2.2.1),(4,(vi g.2.2.1))]) (fun g=>[g.2.2.2.2]++A) (fun g R=>gp N m g.1 g.2.1 g.2.2.1=some C∧ORep kA2tInti64 R g.2.2.2.2 g.2.2.2.1 g.2.1∧True) (fun g=>g.1) (N,[],0,vs0,emp) prm ⟨b,(z0v (T:=kA2tInti64)),trivial⟩ ?_;clear b
 rintro⟨n,s,a,E,F⟩ aF aG f ⟨b,G,_⟩;rcases n with _|n;exact qy b;replace b:gp N m (n+1) s a=some C:=b;rw [gp] at b;refine zx (zl (zm (vi a) (jg rfl vz ug rfl (h2.mono f) fun aH ab=>?_)));refine qp rfl z11 rfl ab fun aI ac=>?_
 refine zi (qm rfl underlying25 rfl (jc ac)) (zi (jd rfl rfl) (z8 (zw rfl b (fun b=>?_) (fun b=>?_))));refine qc ?_;obtain⟨h,c,b⟩:=zn b
 refine j6 (γ:=(List (Int×Int))×Value×Frag) (rs [3,4,5,6,13,35]) (fun g=>[(3,g.2.1)]) (fun g=>[g.2.2]++A) (fun g R=>h=g.1∧ORep kA2tInti64 R g.2.2 g.2.1 g.1∧True) ?_ ?_
 refine zy (zl (zk (vi 0) (z8 (zy (kg (γ:=Nat×Int×(List (Int×Int))×Value×Frag) (rs [3,4,5,6,13,35]) (fun g=>[(3,g.2.2.2.1),(5,(vi g.2.1))]) (fun g=>[g.2.2.2.2]++A) (fun g R=>yx N m a g.1 g.2.1 g.2.2.1=some h∧ORep kA2tInti64 R g.2.2.2.2 g.2.2.2.1 g.2.2.1∧True) (fun g=>g.1) (N,0,s,E,F) prm ⟨c,G,trivial⟩ ?_)))))
 clear c;rintro⟨o,d,j,t,H⟩ aJ aK k ⟨c,u,_⟩;rcases o with _|o;exact qy c;replace c:yx N m a (o+1) d j=some h:=c;rw [yx] at c;refine zx (zl (zm (vi d) (jg rfl z06 eu rfl (h2.mono (f.trans k)) fun aL ad=>?_)))
 refine qp rfl ty3 rfl ad fun aM ae=>?_;obtain rfl:=qh.1 ae;refine zi (jd rfl rfl) (z8 (zw rfl c (fun c=>?_) (fun c=>?_)));refine qc ?_;obtain⟨x,e,c⟩:=zn c
 refine j6 (γ:=(List (Int×Int))×Value×Frag) (rs [3,4,19,35]) (fun g=>[(3,g.2.1)]) (fun g=>[g.2.2]++A) (fun g R=>x=g.1∧ORep kA2tInti64 R g.2.2 g.2.1 g.1∧True) ?_ ?_;refine zy (zl (jg rfl vz ug rfl (h2.mono (f.trans k)) fun aN af=>?_));refine qp rfl z11 rfl af fun aO ag=>?_;refine zm (vi a) ?_
 obtain⟨I,e⟩:=zb e;refine ww (i:=a.toNat) rfl zf2 rfl (jc ag) (ze rfl I.1) (zo I) fun aP ah=>?_;refine qp rfl zdp rfl ah fun aQ ai=>?_;refine zm (vi d) ?_;obtain⟨K,e⟩:=zb e;refine ww (i:=d.toNat) rfl zhb rfl (jc ai) (ze rfl K.1) (zo K) fun aR aj=>?_
 refine jg rfl z6j z9c rfl aj fun aS ak=>?_;refine qp rfl ty3 rfl ak fun aT al=>?_;obtain rfl:=qh.1 al;refine zi (gy rfl rfl) (z8 (zw rfl e (fun e=>?_) (fun e=>?_)))
 refine zq (zm t (zm (vi a) (zm (vi d) (zi (kw (ps:=[(0,(vi a)),(1,(vi d))]) (v:=(.agg #[(vi a),(vi d)])) rfl (fun w=>by kernel_rfl)) (p8 (T:=kA2tInti64) (X:=([((a,d):(Int×Int))]:List (Int×Int))) (ps:=[(0,(.agg #[(vi a),(vi d)]))]) (css:=[[(vi a),(vi d)]]) rfl underlying49 zxj rfl rfl (kv ⟨⟨_,_,rfl,rfl,rfl⟩,trivial⟩) rfl rfl (by decide) fun am aU y an=>?_)))))
 refine uk (i:=0) rfl an fun ao p ap=>?_;have aq:VRep (tSl true kA2tInti64) ao am ([((a,d):(Int×Int))]:List (Int×Int)):=(z01 ap y);obtain⟨L,e⟩:=zb e
 refine bv (i:=0) (X:=j) (Y:=([((a,d):(Int×Int))]:List (Int×Int))) rfl underlying49 zxj rfl rfl rfl (u.mono p) (jc (Sub.v (B:=(tSl false kA2tInti64)) (kz Sub.refl (fun _=>rfl)) aq)) L.1 L.2 fun M ar au=>?_;refine zk M (z8 ?_)
 exact⟨dkt,p,jr,((j++([((a,d):(Int×Int))]:List (Int×Int))),M,ar),⟨rfl,trivial⟩,prm,(Option.some.inj e).symm,au,trivial⟩;refine qc ?_;exact⟨dkt,(RH.le.refl _),jr,(j,t,H),⟨rfl,trivial⟩,prm,(Option.some.inj e).symm,u,trivial⟩;rintro⟨x,av,aw⟩ aV aW O ⟨rfl,ax,_⟩;refine zq (zm (vi d) ?_)
 obtain⟨ay,c⟩:=zb c;refine zi (je rfl rfl ay) (zk (vi (d+1)) (z8 ?_));exact⟨dkt,O,jr,(o,d+1,x,av,aw),Nat.lt_succ_self _,⟨rfl,rfl,trivial⟩,prm,c,ax,trivial⟩;refine jq ?_;exact⟨dkt,k,jr,(j,t,H),⟨rfl,trivial⟩,prm,(Option.some.inj c).symm,u,trivial⟩;rintro⟨h,az,aA⟩ aX aY P ⟨rfl,aB,_⟩
 refine zq (zm (vi a) ?_);obtain⟨aC,b⟩:=zb b;refine zi (je rfl rfl aC) (zk (vi (a+1)) (z8 ?_));exact⟨dkt,P,jr,(n,h,a+1,az,aA),Nat.lt_succ_self _,⟨rfl,rfl,trivial⟩,prm,b,aB,trivial⟩;refine jq ?_;exact⟨dkt,f,jr,(s,E,F),⟨rfl,trivial⟩,prm,(Option.some.inj b).symm,G,trivial⟩
 rintro⟨C,V,aZ⟩ a0 R7 aD ⟨rfl,aE,_⟩;refine zl (zm V (zk V (z8 (nz (i:=0) rfl aE fun Q z S=>?_))));have U:VRep (tSl false kA2tInti64) Q V C:=(z6a S);refine ql ?_;obtain rfl:=Option.some.inj l;refine qd (D:=[]) (J:=[]) (rs:=[.tmp 2]) (vs:=[V]) ((Z.trans aD).trans z) rfl rfl ⟨rfl,trivial⟩ ?_;exact⟨rfl,U⟩
theorem zzm:Enters prog 24:=enters_of func24 rfl (by kernel_rfl)
theorem zzj:TyOk prog 51 kA2tInti64:=by
 obtain⟨i,hi,a⟩: ∃ i,prog.info? 51=some i∧i.size=2:=jv (by kernel_rfl);exact ai underlying51 hi rfl a
theorem zww:SlOk prog 49 51 kA2tInti64:=⟨underlying49,zzj⟩
theorem zx5:ArrOk prog 51 2 1:=zjx (e:=3) underlying51 (fun w=>by kernel_rfl)
end GV
end Go.Proofs.Ytdhccodneoebpaa
