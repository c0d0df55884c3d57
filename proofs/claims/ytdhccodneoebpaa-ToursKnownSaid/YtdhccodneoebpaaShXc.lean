import Derived.Test.YtdhccodneoebpaaShWe
import Derived.Test.YtdhccodneoebpaaShXa
import Derived.Test.YtdhccodneoebpaaRows
set_option linter.unusedVariables false
set_option linter.unusedSimpArgs false
set_option linter.unusedSectionVars false
namespace Go.Proofs.Ytdhccodneoebpaa
namespace GV
open _root_.Go.Proofs.Try
open Go.IntWalk
set_option maxRecDepth 100000
set_option maxHeartbeats 20000000
theorem zxm:ZeroOk prog 51 kA2tInti64 (((0:Int),(0:Int)):(Int×Int)) 16:=by
 obtain⟨i,zv,hi,a,c,d,f⟩:=z0a (P:=prog) (e:=51) (zv:=(.agg #[(vi 0),(vi 0)])) (k:=2) (b:=16) (by kernel_rfl);exact⟨i,zv,hi,a,c,d,fun R=>by subst f;exact⟨_,_,rfl,rfl,rfl⟩⟩
theorem z9s{N:Nat}{R:RH}{m:Mach}{q:Value}(W:VRep (jm false false) R q m){r:(List (Int×Int))}(l:z04 N m=some r):CallP prog 24 #[q] R (fun v R'=>VRep (tSl false kA2tInti64) R' v r):=by
 refine qy (args:=[q]) func24 rfl rfl fun A=>?_;rw [z04] at l;refine zx (dh (T:=(jm false false)) rfl rfl rfl W fun v1 R3 Z h5 h2=>?_);refine zo vs0 (jc (zo vs0 (z8 ?_)));obtain⟨C,b,l⟩:=zn l
 refine ji (γ:=(List (Int×Int))×Value×Frag) (rs [3,35]) (fun g=>[(3,g.2.1)]) (fun g=>[g.2.2]++A) (fun g R=>C=g.1∧ORep kA2tInti64 R g.2.2 g.2.1 g.1∧True) ?_ ?_;refine zx (zo (vi 0) (z8 (q9 (z8g ?_))))
 refine uk (γ:=Nat×(List (Int×Int))×Int×Value×Frag) (rs [3,35]) (fun g=>[(3,g.2.2.2.1),(4,(vi g.2.2.1))]) (fun g=>[g.2.2.2.2]++A) (fun g R=>yz N m g.1 g.2.1 g.2.2.1=some C∧ORep kA2tInti64 R g.2.2.2.2 g.2.2.2.1 g.2.1∧True) (fun g=>g.1) (N,[],0,vs0,emp) prm ⟨b,(z4o (T:=kA2tInti64)),trivial⟩ ?_;clear b
 rintro⟨n,s,a,E,F⟩ aF aG f ⟨b,G,_⟩;rcases n with _|n;exact j5 b;replace b:yz N m (n+1) s a=some C:=b;rw [yz] at b;refine zq (zx (zw (vi a) (vk rfl xw yg rfl (h2.mono f) fun aH ab=>?_)));refine jl rfl z3s rfl ab fun aI ac=>?_
 refine zi (ja rfl underlying25 rfl (jv ac)) (zi (jo rfl rfl) (z8 (qa rfl b (fun b=>?_) (fun b=>?_))));refine qd ?_;obtain⟨h,c,b⟩:=zn b
 refine ji (γ:=(List (Int×Int))×Value×Frag) (rs [3,4,5,6,13,35]) (fun g=>[(3,g.2.1)]) (fun g=>[g.2.2]++A) (fun g R=>h=g.1∧ORep kA2tInti64 R g.2.2 g.2.1 g.1∧True) ?_ ?_
 refine q9 (zx (zo (vi 0) (z8 (q9 (uk (γ:=Nat×Int×(List (Int×Int))×Value×Frag) (rs [3,4,5,6,13,35]) (fun g=>[(3,g.2.2.2.1),(5,(vi g.2.1))]) (fun g=>[g.2.2.2.2]++A) (fun g R=>vz N m a g.1 g.2.1 g.2.2.1=some h∧ORep kA2tInti64 R g.2.2.2.2 g.2.2.2.1 g.2.2.1∧True) (fun g=>g.1) (N,0,s,E,F) prm ⟨c,G,trivial⟩ ?_)))))
 clear c;rintro⟨o,d,j,t,H⟩ aJ aK k ⟨c,u,_⟩;rcases o with _|o;exact j5 c;replace c:vz N m a (o+1) d j=some h:=c;rw [vz] at c;refine zq (zx (zw (vi d) (vk rfl z4l z2q rfl (h2.mono (f.trans k)) fun aL ad=>?_)))
 refine jl rfl ty3 rfl ad fun aM ae=>?_;obtain rfl:=ql.1 ae;refine zi (jo rfl rfl) (z8 (qa rfl c (fun c=>?_) (fun c=>?_)));refine qd ?_;obtain⟨x,e,c⟩:=zn c
 refine ji (γ:=(List (Int×Int))×Value×Frag) (rs [3,4,19,35]) (fun g=>[(3,g.2.1)]) (fun g=>[g.2.2]++A) (fun g R=>x=g.1∧ORep kA2tInti64 R g.2.2 g.2.1 g.1∧True) ?_ ?_;refine q9 (zx (vk rfl xw yg rfl (h2.mono (f.trans k)) fun aN af=>?_));refine jl rfl z3s rfl af fun aO ag=>?_;refine zw (vi a) ?_
 obtain⟨I,e⟩:=ze e;refine bz (i:=a.toNat) rfl ze3 rfl (jv ag) (zb rfl I.1) (zm I) fun aP ah=>?_;refine jl rfl zcy rfl ah fun aQ ai=>?_;refine zw (vi d) ?_;obtain⟨K,e⟩:=ze e;refine bz (i:=d.toNat) rfl znb rfl (jv ai) (zb rfl K.1) (zm K) fun aR aj=>?_
 refine vk rfl zcn zdt rfl aj fun aS ak=>?_;refine jl rfl ty3 rfl ak fun aT al=>?_;obtain rfl:=ql.1 al;refine zi (yh rfl rfl) (z8 (qa rfl e (fun e=>?_) (fun e=>?_)))
 refine zh (zw t (zw (vi a) (zw (vi d) (zi (jg (ps:=[(0,(vi a)),(1,(vi d))]) (v:=(.agg #[(vi a),(vi d)])) rfl (fun w=>by kernel_rfl)) (pz (T:=kA2tInti64) (X:=([((a,d):(Int×Int))]:List (Int×Int))) (ps:=[(0,(.agg #[(vi a),(vi d)]))]) (css:=[[(vi a),(vi d)]]) rfl underlying49 zxm rfl rfl (jq ⟨⟨_,_,rfl,rfl,rfl⟩,trivial⟩) rfl rfl (by decide) fun am aU y an=>?_)))))
 refine uw (i:=0) rfl an fun ao p ap=>?_;have aq:VRep (tSl true kA2tInti64) ao am ([((a,d):(Int×Int))]:List (Int×Int)):=(z14 ap y);obtain⟨L,e⟩:=ze e
 refine lq (i:=0) (X:=j) (Y:=([((a,d):(Int×Int))]:List (Int×Int))) rfl underlying49 zxm rfl rfl rfl (u.mono p) (jv (Sub.v (B:=(tSl false kA2tInti64)) (ug Sub.refl (fun _=>rfl)) aq)) L.1 L.2 fun M ar au=>?_;refine zo M (z8 ?_)
 exact⟨dkt,p,kg,((j++([((a,d):(Int×Int))]:List (Int×Int))),M,ar),⟨rfl,trivial⟩,prm,(Option.some.inj e).symm,au,trivial⟩;refine qd ?_;exact⟨dkt,(RH.le.refl _),kg,(j,t,H),⟨rfl,trivial⟩,prm,(Option.some.inj e).symm,u,trivial⟩;rintro⟨x,av,aw⟩ aV aW O ⟨rfl,ax,_⟩;refine zh (zw (vi d) ?_)
 obtain⟨ay,c⟩:=ze c;refine zi (jr rfl rfl ay) (zo (vi (d+1)) (z8 ?_));exact⟨dkt,O,kg,(o,d+1,x,av,aw),Nat.lt_succ_self _,⟨rfl,rfl,trivial⟩,prm,c,ax,trivial⟩;refine jy ?_;exact⟨dkt,k,kg,(j,t,H),⟨rfl,trivial⟩,prm,(Option.some.inj c).symm,u,trivial⟩;rintro⟨h,az,aA⟩ aX aY P ⟨rfl,aB,_⟩
 refine zh (zw (vi a) ?_);obtain⟨aC,b⟩:=ze b;refine zi (jr rfl rfl aC) (zo (vi (a+1)) (z8 ?_));exact⟨dkt,P,kg,(n,h,a+1,az,aA),Nat.lt_succ_self _,⟨rfl,rfl,trivial⟩,prm,b,aB,trivial⟩;refine jy ?_;exact⟨dkt,f,kg,(s,E,F),⟨rfl,trivial⟩,prm,(Option.some.inj b).symm,G,trivial⟩
 rintro⟨C,V,aZ⟩ a0 R7 aD ⟨rfl,aE,_⟩;refine zx (zw V (zo V (z8 (z1c (i:=0) rfl aE fun Q z S=>?_))));have U:VRep (tSl false kA2tInti64) Q V C:=(z9p S);refine qx ?_;obtain rfl:=Option.some.inj l;refine qh (D:=[]) (J:=[]) (rs:=[.tmp 2]) (vs:=[V]) ((Z.trans aD).trans z) rfl rfl ⟨rfl,trivial⟩ ?_;exact⟨rfl,U⟩
theorem zzb:Enters prog 24:=enters_of func24 rfl (by kernel_rfl)
theorem zzm:TyOk prog 51 kA2tInti64:=by
 obtain⟨i,hi,a⟩: ∃ i,prog.info? 51=some i∧i.size=2:=ky (by kernel_rfl);exact z0k underlying51 hi rfl a
theorem zym:SlOk prog 49 51 kA2tInti64:=⟨underlying49,zzm⟩
theorem zyv:ArrOk prog 51 2 1:=zly (e:=3) underlying51 (fun w=>by kernel_rfl)
end GV
end Go.Proofs.Ytdhccodneoebpaa
