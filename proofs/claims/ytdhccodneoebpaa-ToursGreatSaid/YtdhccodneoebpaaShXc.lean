import Derived.Test.YtdhccodneoebpaaShWe
import Derived.Test.YtdhccodneoebpaaShXa
import Derived.Test.YtdhccodneoebpaaRows
set_option linter.unusedVariables false
set_option linter.unusedSimpArgs false
set_option linter.unusedSectionVars false
namespace Go.Proofs.Ytdhccodneoebpaa
namespace GV
open _root_.Go.Proofs.Try
open Go.IntWalk
set_option maxRecDepth 100000
set_option maxHeartbeats 20000000
theorem q45:ZeroOk prog 51 kA2tInti64 (((0:Int),(0:Int)):(Int×Int)) 16:=by
 obtain⟨i,zv,hi,a,c,d,f⟩:=z11 (P:=prog) (e:=51) (zv:=(.agg #[(vi 0),(vi 0)])) (k:=2) (b:=16) (by kernel_rfl);exact⟨i,zv,hi,a,c,d,fun R=>by subst f;exact⟨_,_,rfl,rfl,rfl⟩⟩
theorem z3t{N:Nat}{R:RH}{m:Mach}{q:Value}(W:VRep (jg false false) R q m){r:(List (Int×Int))}(l:aa N m=some r):CallP prog 24 #[q] R (fun v R'=>VRep (tSl false kA2tInti64) R' v r):=by
 refine qp (args:=[q]) func24 rfl rfl fun A=>?_;rw [aa] at l;refine zo (y5 (T:=(jg false false)) rfl rfl rfl W fun v1 R3 Z h5 h2=>?_);refine zm vs0 (j4 (zm vs0 (z8 ?_)));obtain⟨C,b,l⟩:=zu l
 refine jb (γ:=(List (Int×Int))×Value×Frag) (rs [3,35]) (fun g=>[(3,g.2.1)]) (fun g=>[g.2.2]++A) (fun g R=>C=g.1∧ORep kA2tInti64 R g.2.2 g.2.1 g.1∧True) ?_ ?_;refine zo (zm (vi 0) (z8 (zz (z4z ?_))))
 refine ky (γ:=Nat×(List (Int×Int))×Int×Value×Frag) (rs [3,35]) (fun g=>[(3,g.2.2.2.1),(4,(vi g.2.2.1))]) (fun g=>[g.2.2.2.2]++A) (fun g R=>gy N m g.1 g.2.1 g.2.2.1=some C∧ORep kA2tInti64 R g.2.2.2.2 g.2.2.2.1 g.2.1∧True) (fun g=>g.1) (N,[],0,vs0,emp) prm ⟨b,(z0y (T:=kA2tInti64)),trivial⟩ ?_;clear b
 rintro⟨n,s,a,E,F⟩ aH aI f ⟨b,G,_⟩;rcases n with _|n;exact j6 b;replace b:gy N m (n+1) s a=some C:=b;rw [gy] at b;refine q9 (zo (zl (vi a) (jq rfl dx vw rfl (h2.mono f) fun aJ ac=>?_)));refine j3 rfl z4r rfl ac fun aK ad=>?_
 refine zi (qx rfl underlying25 rfl (je ad)) (zi (jk rfl rfl) (z8 (qa rfl b (fun b=>?_) (fun b=>?_))));refine qc ?_;obtain⟨h,c,b⟩:=zu b
 refine jb (γ:=(List (Int×Int))×Value×Frag) (rs [3,4,5,6,13,35]) (fun g=>[(3,g.2.1)]) (fun g=>[g.2.2]++A) (fun g R=>h=g.1∧ORep kA2tInti64 R g.2.2 g.2.1 g.1∧True) ?_ ?_
 refine zz (zo (zm (vi 0) (z8 (zz (ky (γ:=Nat×Int×(List (Int×Int))×Value×Frag) (rs [3,4,5,6,13,35]) (fun g=>[(3,g.2.2.2.1),(5,(vi g.2.1))]) (fun g=>[g.2.2.2.2]++A) (fun g R=>yw N m a g.1 g.2.1 g.2.2.1=some h∧ORep kA2tInti64 R g.2.2.2.2 g.2.2.2.1 g.2.2.1∧True) (fun g=>g.1) (N,0,s,E,F) prm ⟨c,G,trivial⟩ ?_)))))
 clear c;rintro⟨o,d,j,t,H⟩ aL aM k ⟨c,u,_⟩;rcases o with _|o;exact j6 c;replace c:yw N m a (o+1) d j=some h:=c;rw [yw] at c;refine q9 (zo (zl (vi d) (jq rfl z3q z1s rfl (h2.mono (f.trans k)) fun aN ae=>?_)))
 refine j3 rfl ty3 rfl ae fun aO af=>?_;obtain rfl:=qj.1 af;refine zi (jk rfl rfl) (z8 (qa rfl c (fun c=>?_) (fun c=>?_)));refine qc ?_;obtain⟨x,e,c⟩:=zu c
 refine jb (γ:=(List (Int×Int))×Value×Frag) (rs [3,4,19,35]) (fun g=>[(3,g.2.1)]) (fun g=>[g.2.2]++A) (fun g R=>x=g.1∧ORep kA2tInti64 R g.2.2 g.2.1 g.1∧True) ?_ ?_;refine zz (zo (jq rfl dx vw rfl (h2.mono (f.trans k)) fun aP ag=>?_));refine j3 rfl z4r rfl ag fun aQ ah=>?_;refine zl (vi a) ?_
 obtain⟨I,e⟩:=za e;refine yj (i:=a.toNat) rfl zmy rfl (je ah) (zb rfl I.1) (zn I) fun aR aj=>?_;refine j3 rfl zk8 rfl aj fun aS ak=>?_;refine zl (vi d) ?_;obtain⟨K,e⟩:=za e;refine yj (i:=d.toNat) rfl zmj rfl (je ak) (zb rfl K.1) (zn K) fun aT al=>?_
 refine jq rfl za6 zb4 rfl al fun aU am=>?_;refine j3 rfl ty3 rfl am fun aV an=>?_;obtain rfl:=qj.1 an;refine zi (ai rfl rfl) (z8 (qa rfl e (fun e=>?_) (fun e=>?_)))
 refine zt (zl t (zl (vi a) (zl (vi d) (zi (jy (ps:=[(0,(vi a)),(1,(vi d))]) (v:=(.agg #[(vi a),(vi d)])) rfl (fun w=>by kernel_rfl)) (bv (T:=kA2tInti64) (X:=([((a,d):(Int×Int))]:List (Int×Int))) (ps:=[(0,(.agg #[(vi a),(vi d)]))]) (css:=[[(vi a),(vi d)]]) rfl underlying49 q45 rfl rfl (jv ⟨⟨_,_,rfl,rfl,rfl⟩,trivial⟩) rfl rfl (by decide) fun ao aW y ap=>?_)))))
 refine u7 (i:=0) rfl ap fun aq p ar=>?_;have au:VRep (tSl true kA2tInti64) aq ao ([((a,d):(Int×Int))]:List (Int×Int)):=(z0d ar y);obtain⟨L,e⟩:=za e
 refine gq (i:=0) (X:=j) (Y:=([((a,d):(Int×Int))]:List (Int×Int))) rfl underlying49 q45 rfl rfl rfl (u.mono p) (je (Sub.v (B:=(tSl false kA2tInti64)) (uh Sub.refl (fun _=>rfl)) au)) L.1 L.2 fun M av aw=>?_;refine zm M (z8 ?_)
 exact⟨dkt,p,jr,((j++([((a,d):(Int×Int))]:List (Int×Int))),M,av),⟨rfl,trivial⟩,prm,(Option.some.inj e).symm,aw,trivial⟩;refine qc ?_;exact⟨dkt,(RH.le.refl _),jr,(j,t,H),⟨rfl,trivial⟩,prm,(Option.some.inj e).symm,u,trivial⟩;rintro⟨x,ax,ay⟩ aX aY O ⟨rfl,az,_⟩;refine zt (zl (vi d) ?_)
 obtain⟨aA,c⟩:=za c;refine zi (ji rfl rfl aA) (zm (vi (d+1)) (z8 ?_));exact⟨dkt,O,jr,(o,d+1,x,ax,ay),Nat.lt_succ_self _,⟨rfl,rfl,trivial⟩,prm,c,az,trivial⟩;refine jm ?_;exact⟨dkt,k,jr,(j,t,H),⟨rfl,trivial⟩,prm,(Option.some.inj c).symm,u,trivial⟩;rintro⟨h,aB,aC⟩ aZ a0 P ⟨rfl,aD,_⟩
 refine zt (zl (vi a) ?_);obtain⟨aE,b⟩:=za b;refine zi (ji rfl rfl aE) (zm (vi (a+1)) (z8 ?_));exact⟨dkt,P,jr,(n,h,a+1,aB,aC),Nat.lt_succ_self _,⟨rfl,rfl,trivial⟩,prm,b,aD,trivial⟩;refine jm ?_;exact⟨dkt,f,jr,(s,E,F),⟨rfl,trivial⟩,prm,(Option.some.inj b).symm,G,trivial⟩
 rintro⟨C,V,a1⟩ a2 R7 aF ⟨rfl,aG,_⟩;refine zo (zl V (zm V (z8 (tq (i:=0) rfl aG fun Q z S=>?_))));have U:VRep (tSl false kA2tInti64) Q V C:=(z6h S);refine qw ?_;obtain rfl:=Option.some.inj l;refine qh (D:=[]) (J:=[]) (rs:=[.tmp 2]) (vs:=[V]) ((Z.trans aF).trans z) rfl rfl ⟨rfl,trivial⟩ ?_;exact⟨rfl,U⟩
theorem q0r:Enters prog 24:=enters_of func24 rfl (by kernel_rfl)
theorem q44:TyOk prog 51 kA2tInti64:=by
 obtain⟨i,hi,a⟩: ∃ i,prog.info? 51=some i∧i.size=2:=jf (by kernel_rfl);exact ib underlying51 hi rfl a
theorem q1v:SlOk prog 49 51 kA2tInti64:=⟨underlying49,q44⟩
theorem q34:ArrOk prog 51 2 1:=zpf (e:=3) underlying51 (fun w=>by kernel_rfl)
end GV
end Go.Proofs.Ytdhccodneoebpaa
