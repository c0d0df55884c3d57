import Derived.Test.YtdhccodneoebpaaShWe
import Derived.Test.YtdhccodneoebpaaShXa
import Derived.Test.YtdhccodneoebpaaShXb
import Derived.Test.YtdhccodneoebpaaShXc
import Derived.Test.YtdhccodneoebpaaShXe
import Derived.Test.YtdhccodneoebpaaShXg
import Derived.Test.YtdhccodneoebpaaShXh
import Derived.Test.YtdhccodneoebpaaRows
set_option linter.unusedVariables false
set_option linter.unusedSimpArgs false
set_option linter.unusedSectionVars false
namespace Go.Proofs.Ytdhccodneoebpaa
namespace GV
open _root_.Go.Proofs.Try
open Go.IntWalk
set_option maxRecDepth 100000
set_option maxHeartbeats 20000000
theorem zzm:ZeroOk prog 95 kSgauntletref38_spot (⟨(0:Int),(0:Int),(0:Int),(0:Int)⟩:Sa) 32:=by
 obtain⟨i,zv,hi,a,c,d,f⟩:=z11 (P:=prog) (e:=95) (zv:=(.agg #[(vi 0),(vi 0),(vi 0),(vi 0)])) (k:=4) (b:=32) (by kernel_rfl);exact⟨i,zv,hi,a,c,d,fun R=>by subst f;exact⟨_,_,rfl,rfl,⟨_,_,rfl,rfl,⟨_,_,rfl,rfl,rfl⟩⟩⟩⟩
theorem q0r:TyOk prog 95 kSgauntletref38_spot:=by
 obtain⟨i,hi,a⟩: ∃ i,prog.info? 95=some i∧i.size=4:=jr (by kernel_rfl);exact rz underlying95 hi rfl a
theorem zxw:SlOk prog 96 95 kSgauntletref38_spot:=⟨underlying96,q0r⟩
theorem q47: ∀ w,∃ z,(zeroValue 95).run prog w= .ok z w∧z.cells=([.int .i64 0,.int .i64 0,.int .i64 0,.int .i64 0]:List Value).toArray:=fun w=>⟨(.agg #[(vi 0),(vi 0),(vi 0),(vi 0)]),by kernel_rfl,rfl⟩
theorem q3c: ∀ w,(sizeOf 95).run prog w= .ok 4 w:=fun w=>by kernel_rfl
theorem ztx:FieldOk prog 95 1 1:=by
 obtain⟨i,hi,a⟩: ∃ i,prog.info? 3=some i∧i.size=1:=jr (by kernel_rfl);exact vg underlying95 rfl rfl hi (by rw [a];rfl)
theorem zor:FieldOk prog 95 0 0:=by
 obtain⟨i,hi,a⟩: ∃ i,prog.info? 3=some i∧i.size=1:=jr (by kernel_rfl);exact vg underlying95 rfl rfl hi (by rw [a];rfl)
theorem zuk:FieldOk prog 95 2 2:=by
 obtain⟨i,hi,a⟩: ∃ i,prog.info? 3=some i∧i.size=1:=jr (by kernel_rfl);exact vg underlying95 rfl rfl hi (by rw [a];rfl)
theorem q00:FieldOk prog 95 3 3:=by
 obtain⟨i,hi,a⟩: ∃ i,prog.info? 3=some i∧i.size=1:=jr (by kernel_rfl);exact vg underlying95 rfl rfl hi (by rw [a];rfl)
theorem zbv{N:Nat}{R:RH}{m:Mach}{aL:Value}(aM:VRep (jf false false) R aL m){round:Bool}{r:(List Int)×Bool}(o:z1f N m round=some r):CallP prog 19 #[aL,(.bool round)] R (fun v R'=> ∃ u0,v= .tuple #[u0,(.bool r.2)]∧VRep (tSl false (zz .i64)) R' u0 r.1):=by
 refine qo (args:=[aL,(.bool round)]) func19 rfl rfl fun A=>?_;rw [z1f] at o;refine zt (vo (T:=(jf false false)) rfl rfl rfl aM fun v1 R3 aw h5 h2=>?_);refine zn vs0 (zn (.bool false) (j5 (zi (jo z0z rfl rfl h5 (aM.mono aw)) ?_)));obtain⟨y6,c7,o⟩:=zu o
 refine jl rfl zy9 rfl (z1i (aM.mono aw) c7) fun v8 dC M h9=>?_;refine zn v8 (j5 (zl v8 (zi (qz rfl underlying49 rfl (jd h9)) ?_)));obtain⟨ci,o⟩:=ze o;refine zi (zd0 rfl rfl ci) ?_;obtain⟨cj,o⟩:=ze o
 refine zi (z0i rfl rfl cj) (zn (vi ((z1k .i64 (1:Int) (↑y6.length:Int))-1)) (j5 (ku rfl pg vv rfl (h2.mono M) fun dD ck=>?_)));refine j4 rfl z3k rfl ck fun dE cl=>?_
 refine zi (qz rfl underlying25 rfl (jd cl)) (zn (vi (↑m.rows.length:Int)) (j5 (zl (vi (↑m.rows.length:Int)) (zl (vi ((z1k .i64 (1:Int) (↑y6.length:Int))-1)) ?_))));obtain⟨cm,o⟩:=ze o;refine zi (jg rfl rfl cm) ?_;obtain⟨cn,o⟩:=ze o;refine zi (zel rfl rfl cn) ?_;obtain⟨ax,o⟩:=ze o
 refine z1r (T:=x9) (m:=((↑m.rows.length:Int)*(((z1k .i64 (1:Int) (↑y6.length:Int))-1)+1)).toNat) (c:=((↑m.rows.length:Int)*(((z1k .i64 (1:Int) (↑y6.length:Int))-1)+1)).toNat) rfl underlying88 zo4 (zb rfl ax.1) (zb rfl ax.1) (Nat.le_refl _) (z2w ax) (z2v ax) fun x dF aN aX=>?_
 refine zn x (j5 (zi (kw (ps:=[(0,(vi 0)),(1,(vi 0)),(2,(vi (-1))),(3,(vi 0))]) (v:=(.agg #[(vi 0),(vi 0),(vi (-1)),(vi 0)])) rfl (fun w=>by kernel_rfl)) (bq (T:=kSgauntletref38_spot) (X:=([(⟨0,0,(-1),0⟩:Sa)]:List Sa)) (ps:=[(0,(.agg #[(vi 0),(vi 0),(vi (-1)),(vi 0)]))]) (css:=[[(vi 0),(vi 0),(vi (-1)),(vi 0)]]) rfl underlying96 zzm rfl rfl (ko ⟨⟨_,_,rfl,rfl,⟨_,_,rfl,rfl,⟨_,_,rfl,rfl,rfl⟩⟩⟩,trivial⟩) rfl rfl (by decide) fun aY co cp cq=>?_)))
 refine zn aY (j5 (zl x ?_));obtain⟨aO,o⟩:=ze o;refine kg (i:=(0:Int).toNat) rfl z7k rfl aX (zb rfl aO.1) (zm aO) fun dG cr=>?_;refine gm (i:=(0:Int).toNat) (j:=1) ty4 aX rfl rfl cr (zm aO) rfl (yl.2 rfl) fun cs ct=>?_;refine z8 ?_;obtain⟨aP,p,o⟩:=zu o
 refine jb (γ:=Unit) (rs [4,6,10,18,36,130]) (fun g=>[]) (fun g=>[]++A) (fun g R=>aP=Ex.go g∧True) ?_ ?_
 refine zt (zn (vi 0) (z8 (q9 (kv (γ:=Nat×Int×(List Bool)×(List Sa)×Frag×Value×Frag) (rs [4,6,10,18,36,130]) (fun g=>[(10,g.2.2.2.2.2.1),(11,(vi g.2.1))]) (fun g=>[g.2.2.2.2.1,g.2.2.2.2.2.2]++A) (fun g R=>nu N m round y6 g.1 g.2.1 g.2.2.1 g.2.2.2.1=some aP∧ORep x9 R g.2.2.2.2.1 x g.2.2.1∧capOf x=g.2.2.1.length∧ORep kSgauntletref38_spot R g.2.2.2.2.2.2 g.2.2.2.2.2.1 g.2.2.2.1∧True) (fun g=>g.1) (N,0,(up (mk ((↑m.rows.length:Int)*(((z1k .i64 (1:Int) (↑y6.length:Int))-1)+1)) false) 0 true),([(⟨0,0,(-1),0⟩:Sa)]:List Sa),cs,aY,co) ⟨[],(pk 1 rfl (pk 0 rfl (List.Perm.refl _)))⟩ ⟨p,ct,((aN.trans List.length_replicate.symm).trans List.length_set.symm),cq,trivial⟩ ?_))))
 clear p;rintro⟨ay,a,aZ,b,aQ,F,az⟩ cM dH O ⟨p,cu,a0,C,_⟩;rcases ay with _|ay;exact qy p;replace p:nu N m round y6 (ay+1) a aZ b=some aP:=p;rw [nu] at p
 refine zy (zt (zl (vi a) (zl F (zi (mq rfl underlying96 rfl C) (zi (jh rfl rfl) (z8 (qa rfl p (fun p=>?_) (fun p=>?_))))))));refine qc ?_;obtain⟨aR,n,p⟩:=zu p
 refine jb (γ:=(List Bool×List Sa)×Frag×Value×Frag) (rs [4,6,10,11,12,18,42,130]) (fun g=>[(10,g.2.2.1)]) (fun g=>[g.2.1,g.2.2.2]++A) (fun g R=>aR=Ex.go g.1∧ORep x9 R g.2.1 x g.1.1∧capOf x=g.1.1.length∧ORep kSgauntletref38_spot R g.2.2.2 g.2.2.1 g.1.2∧True) ?_ ?_;refine q9 (zt (zl F (zl (vi a) ?_)))
 obtain⟨aS,n⟩:=ze n;refine kg (i:=a.toNat) rfl zxw rfl C (zb rfl aS.1) (zm aS) fun dI cv=>?_;refine ig (i:=a.toNat) (j:=1) rfl q0r C rfl rfl cv (zm aS) fun dJ cw=>?_;obtain rfl:=z9s.1 cw;refine jc rfl q47 fun P=>?_
 refine qm (i:=0) (vs:=[(vi ((ix b a).fG)),(vi ((ix b a).fI)),(vi ((ix b a).fE)),(vi ((ix b a).fA))]) q3c rfl rfl rfl rfl rfl rfl (qb rfl (qb rfl (qb rfl (qb rfl j3)))) ?_
 refine z8 (zy (zt (ji (v:=(.pointer (some ⟨P,1,none⟩))) rfl (qd ztx rfl) (ji (v:=(vi ((ix b a).fI))) rfl (zg (i:=0) ag3 rfl rfl rfl) (ji (v:=(vi ((z1k .i64 (1:Int) (↑y6.length:Int))-1))) rfl (zf rfl) (ji rfl (xe rfl rfl) (ji (v:=(.bool (decide (((ix b a).fI)=((z1k .i64 (1:Int) (↑y6.length:Int))-1))))) rfl (zf rfl) (j6 rfl rfl rfl rfl (fun hB=>qi (v:=(.bool round)) (zf rfl)) fun dK cx=>?_))))))))
 refine j6 rfl rfl rfl rfl (fun hB=>qi (p9 (cx.1 (zk rfl hB)))) fun dL cy=>?_;refine j6 rfl rfl rfl rfl (fun hB=>qi (v:=(.bool (!round))) (zf (cy.1 (zk rfl hB)))) fun dM aA=>?_;refine z7x rfl rfl rfl aA (fun hG hB=>qi (v:=(.pointer (some ⟨P,0,none⟩))) (qd zor rfl)) fun dN cz=>?_
 refine z7x rfl rfl rfl aA (fun hG hB=>qi (v:=(vi ((ix b a).fG))) (zg (i:=0) ag3 (cz.1 (zk hG hB)) rfl rfl)) fun dO cA=>?_;refine z7x rfl rfl rfl aA (fun hG hB=>qi (xe (cA.1 (zk hG hB)) rfl)) fun dP cB=>?_
 refine j6 rfl rfl rfl rfl (fun hB=>qi (l7 (aA.1 (zk rfl hB)) rfl (fun hb=>(cB.1 (zk (zk rfl hB) hb))))) fun dQ cD=>?_;refine ji rfl (y5 rfl (fun hb=>(cD.1 (zk rfl hb))) rfl) (z8 (qa rfl n (fun n=>?_) (fun n=>?_)));refine zt (zn vs0 (z8 ?_));obtain⟨ah,d,n⟩:=zu n
 refine jb (γ:=(List Int)×Value×Frag) (rs [13,15,59,79]) (fun g=>[(13,g.2.1)]) (fun g=>[g.2.2]++A) (fun g R=>ah=g.1∧ORep (zz .i64) R g.2.2 g.2.1 g.1∧True) ?_ ?_;refine zt (zl (vi a) (zn (vi a) (z8 (q9 (z5j ?_)))))
 refine kv (γ:=Nat×(List Int)×Int×Value×Frag) (rs [13,15,60,79]) (fun g=>[(13,g.2.2.2.1),(14,(vi g.2.2.1))]) (fun g=>[az,g.2.2.2.2]++A) (fun g R=>ny N b g.1 g.2.1 g.2.2.1=some ah∧ORep (zz .i64) R g.2.2.2.2 g.2.2.2.1 g.2.1∧True) (fun g=>g.1) (N,[],a,vs0,emp) ⟨[box P [(vi ((ix b a).fG)),(vi ((ix b a).fI)),(vi ((ix b a).fE)),(vi ((ix b a).fA))] 95,aQ],(pk 1 rfl (pk 1 rfl (pk 1 rfl (pk 0 rfl (List.Perm.refl _)))))⟩ ⟨d,(z1w (T:=(zz .i64))),trivial⟩ ?_
 clear d;rintro⟨Z,Q,f,ai,a1⟩ cN cO u ⟨d,aD,_⟩;rcases Z with _|Z;exact qy d;replace d:ny N b (Z+1) Q f=some ah:=d;rw [ny] at d;refine zy (zt (zl F (zl (vi f) ?_)));obtain⟨aj,d⟩:=ze d
 refine kg (i:=f.toNat) rfl zxw rfl (C.mono u) (zb rfl aj.1) (zm aj) fun cP a2=>?_;refine l6 rfl (z3c zuk rfl a2) fun a3 cQ q ak=>?_;replace ak:z4f kSgauntletref38_spot 2 F b a3 f.toNat:=ak
 refine l6 rfl (uf (z3v (i:=f.toNat) (j:=0) ty3 z5g (C.mono (u.trans q)) rfl rfl ak (zm aj)) (fun _ _ h=>qh.1 h)) fun cR cS t a4=>?_;obtain rfl:=Eq.symm a4;refine zi (z6p rfl rfl) (z8 (qa rfl d (fun d=>?_) (fun d=>?_)))
 refine qc (zy (q9 (zq (zl F (zl (vi f) ?_)))));obtain⟨al,d⟩:=ze d;refine kg (i:=f.toNat) rfl zxw rfl (C.mono ((u.trans q).trans t)) (zb rfl al.1) (zm al) fun cT a5=>?_;refine l6 rfl (z3c q00 rfl a5) fun a6 cU y am=>?_
 replace am:z4f kSgauntletref38_spot 3 F b a6 f.toNat:=am;refine l6 rfl (uf (z3v (i:=f.toNat) (j:=0) ty3 z9w (C.mono (((u.trans q).trans t).trans y)) rfl rfl am (zm al)) (fun _ _ h=>qh.1 h)) fun cV cW G a7=>?_;obtain rfl:=Eq.symm a7
 refine bq (T:=(zz .i64)) (X:=([(ix b f).fA]:List Int)) (ps:=[(0,(vi ((ix b f).fA)))]) (css:=[[(vi ((ix b f).fA))]]) rfl underlying36 zo3 rfl rfl (ko ⟨rfl,trivial⟩) rfl rfl (by decide) fun cX cY ce a8=>?_
 refine zl ai (uk (i:=2) rfl (aD.mono (((q.trans t).trans y).trans G)) fun a9 H ba=>?_);have bb:VRep (tSl false (zz .i64)) a9 ai Q:=(z5z ba);obtain⟨aE,d⟩:=ze d
 refine pz (i:=0) (X:=([(ix b f).fA]:List Int)) (Y:=Q) rfl underlying36 zo3 rfl rfl rfl (a8.mono H) (jd bb) aE.1 aE.2 fun aF bc be=>?_;refine zn aF (z8 (zq (zl F (zl (vi f) ?_))));obtain⟨an,d⟩:=ze d
 refine kg (i:=f.toNat) rfl zxw rfl (C.mono (((((u.trans q).trans t).trans y).trans G).trans H)) (zb rfl an.1) (zm an) fun cZ bf=>?_;refine l6 rfl (z3c zuk rfl bf) fun bg c0 V ao=>?_;replace ao:z4f kSgauntletref38_spot 2 F b bg f.toNat:=ao
 refine l6 rfl (uf (z3v (i:=f.toNat) (j:=1) ty3 z5g (C.mono ((((((u.trans q).trans t).trans y).trans G).trans H).trans V)) rfl rfl ao (zm an)) (fun _ _ h=>qh.1 h)) fun c1 c2 ap bh=>?_;obtain rfl:=Eq.symm bh;refine zn (vi ((ix b f).fE)) (z8 ?_)
 exact⟨dkt,((((((q.trans t).trans y).trans G).trans H).trans V).trans ap),jm,(Z,(([(ix b f).fA]:List Int)++Q),(ix b f).fE,aF,bc),Nat.lt_succ_self _,⟨rfl,rfl,trivial⟩,⟨[],(pk 1 rfl (pk 0 rfl (List.Perm.refl _)))⟩,d,(be.mono (V.trans ap)),trivial⟩;refine jk ?_
 exact⟨dkt,((u.trans q).trans t),jm,(Q,ai,a1),⟨rfl,trivial⟩,⟨[az],(List.Perm.refl _)⟩,(Option.some.inj d).symm,(aD.mono (q.trans t)),trivial⟩;rintro⟨ah,S,aG⟩ c3 dR bi ⟨rfl,bj,_⟩;refine zt (zl S (zn S (zn (.bool true) (z8 (mg (i:=0) rfl bj fun bk aT bl=>?_)))))
 have bm:VRep (tSl false (zz .i64)) bk S ah:=(z5z bl);refine qw ?_;replace p:=z2h n p;replace o:=z2h p o;obtain rfl:=Option.some.inj o;refine qg (D:=[]) (J:=[]) (rs:=[.tmp 4,.tmp 5]) (vs:=[S,(.bool true)]) ((((aw.trans M).trans O).trans bi).trans aT) rfl rfl ⟨rfl,rfl,trivial⟩ ?_;exact⟨rfl,⟨S,rfl,bm⟩⟩
 refine qc (zt (zn (vi 0) (z8 (q9 (kv (γ:=Nat×Int×(List Bool)×(List Sa)×Frag×Value×Frag) (rs [10,11,15,18,80,130]) (fun g=>[(10,g.2.2.2.2.2.1),(15,(vi g.2.1))]) (fun g=>[g.2.2.2.2.1,g.2.2.2.2.2.2,box P [(vi ((ix b a).fG)),(vi ((ix b a).fI)),(vi ((ix b a).fE)),(vi ((ix b a).fA))] 95]++A) (fun g R=>yf N m y6 a b g.1 g.2.1 g.2.2.1 g.2.2.2.1=some aR∧ORep x9 R g.2.2.2.2.1 x g.2.2.1∧capOf x=g.2.2.1.length∧ORep kSgauntletref38_spot R g.2.2.2.2.2.2 g.2.2.2.2.2.1 g.2.2.2.1∧True) (fun g=>g.1) (N,0,aZ,b,aQ,F,az) ⟨[],(pk 1 rfl (pk 1 rfl (pk 0 rfl (List.Perm.refl _))))⟩ ⟨n,cu,a0,C,trivial⟩ ?_)))))
 clear n;rintro⟨aa,e,U,E,aq,ab,ar⟩ c4 c5 I ⟨n,z,K,ac,_⟩;rcases aa with _|aa;exact qy n;replace n:yf N m y6 a b (aa+1) e U E=some aR:=n;rw [yf] at n
 refine zy (zt (zl (vi e) (ku rfl z3l z1d rfl (h2.mono ((M.trans O).trans I)) fun c6 bn=>?_)));refine j4 rfl ty3 rfl bn fun c8 bo=>?_;obtain rfl:=qh.1 bo;refine zi (jh rfl rfl) (z8 (qa rfl n (fun n=>?_) (fun n=>?_)));refine qc ?_;obtain⟨ad,d,n⟩:=zu n
 refine jb (γ:=(List Bool×List Sa)×Frag×Value×Frag) (rs [10,11,16,18,86,130]) (fun g=>[(10,g.2.2.1)]) (fun g=>[g.2.1,g.2.2.2,box P [(vi ((ix b a).fG)),(vi ((ix b a).fI)),(vi ((ix b a).fE)),(vi ((ix b a).fA))] 95]++A) (fun g R=>ad=g.1∧ORep x9 R g.2.1 x g.1.1∧capOf x=g.1.1.length∧ORep kSgauntletref38_spot R g.2.2.2 g.2.2.1 g.1.2∧True) ?_ ?_
 refine q9 (zt (ku rfl pg vv rfl (h2.mono ((M.trans O).trans I)) fun c9 bp=>?_));refine j4 rfl z3k rfl bp fun da br=>?_;refine zi (qd zor rfl) (zi (zg (i:=2) ag3 rfl rfl rfl) ?_);obtain⟨aH,d⟩:=ze d
 refine yj (i:=((ix b a).fG).toNat) rfl zic rfl (jd br) (zb rfl aH.1) (zm aH) fun db bs=>?_;refine j4 rfl zgo rfl bs fun dc bt=>?_;refine zl (vi e) ?_;obtain⟨aI,d⟩:=ze d;refine yj (i:=e.toNat) rfl zj7 rfl (jd bt) (zb rfl aI.1) (zm aI) fun dd bu=>?_
 refine ku rfl z7j z7b rfl bu fun de bv=>?_;refine j4 rfl ty3 rfl bv fun df bw=>?_;obtain rfl:=qh.1 bw
 refine zn (vi ((ix (ix m.rows ((ix b a).fG)) e).to)) (z8 (zy (zt (zl (vi ((ix (ix m.rows ((ix b a).fG)) e).to)) (zi (xe rfl rfl) (z8 (qa rfl d (fun d=>?_) (fun d=>?_))))))));refine jk ?_
 exact⟨dkt,(RH.le.refl _),jm,((U,E),aq,ab,ar),⟨rfl,trivial⟩,prm,(Option.some.inj d).symm,z,K,ac,trivial⟩;refine qc (zy ?_);obtain⟨k,bx,d⟩:=zu d;obtain⟨bz,d⟩:=ze d
 refine mh 9 [] [phX (.pointer (some ⟨P,1,none⟩)),phX (vi ((ix b a).fI)),phX v8,phX (.pointer (some ⟨P,0,none⟩)),phX (vi ((ix b a).fG)),phX (vi e),phX (vi k),phX (vi (ior ((ix b a).fI) k)),phX (vi (ior ((ix b a).fI) k))] mixed (by kernel_rfl) (pq ⟨zo,zo,zo,zo,zo,zo,zo,zo,zo,trivial⟩) ⟨?_,?_,?_,?_,?_,?_,?_,?_,?_,trivial⟩ fun dg s=>?_
 intro l dS L ha hd;exact za rfl rfl rfl (zw (qd ztx (ha 12 rfl)));rintro l dT L ha ⟨d0,_⟩;exact za rfl rfl rfl (zw (zg (i:=2) ag3 (d0 rfl) rfl rfl));intro l dU L ha hd;exact za rfl rfl rfl (zw (zf (ha 6 rfl)));intro l dV L ha hd;exact za rfl rfl rfl (zw (qd zor (ha 12 rfl)))
 rintro l dW L ha ⟨d0,_⟩;have aG:=d0 rfl;exact za rfl rfl rfl (zw (zg (i:=2) ag3 aG rfl rfl));intro l dX L ha hd;exact za rfl rfl rfl (zw (zf (ha 15 rfl)));rintro l dY L ha ⟨d0,d1,d2,_⟩;have bA:l 100=v8:=d0 rfl;have bB:l 102=(vi ((ix b a).fG)):=d1 rfl;have bC:l 103=(vi e):=d2 rfl
 exact za rfl rfl rfl (vk (vs:=[v8,(vi ((ix b a).fG)),(vi e)]) q2c (by simp only [List.map,ev,bA,bB,bC]<;>rfl) (z7r ((h9.mono (O.trans I)).mono L) bx) (fun _ _ h=>h));rintro l dZ L ha ⟨d0,d1,_⟩;exact za rfl rfl rfl (zw (zm4 (d0 rfl) (d1 rfl) bz))
 rintro l ea L ha ⟨d0,d1,d2,d3,d4,d5,d6,d7,d8,d9,_⟩;exact za rfl rfl rfl (zw (ni (d0 rfl)));intro di bD dj bE dk bF dl bG dm bH dn bI dp bJ dq bK dr bL;obtain rfl:=Eq.symm bD;obtain rfl:=Eq.symm bE;obtain rfl:=Eq.symm bF;obtain rfl:=Eq.symm bG;obtain rfl:=Eq.symm bH;obtain rfl:=Eq.symm bI
 obtain rfl:=Eq.symm bJ;obtain rfl:=Eq.symm bK;obtain rfl:=Eq.symm bL;refine j5 (zl x (zl (vi (ior ((ix b a).fI) k)) (zl (vi (↑m.rows.length:Int)) ?_)));obtain⟨bM,d⟩:=ze d;refine zi (zel rfl rfl bM) (zl (vi ((ix (ix m.rows ((ix b a).fG)) e).to)) ?_);obtain⟨bN,d⟩:=ze d
 refine zi (jg rfl rfl bN) ?_;obtain⟨au,d⟩:=ze d;refine kg (i:=(((ior ((ix b a).fI) k)*(↑m.rows.length:Int))+((ix (ix m.rows ((ix b a).fG)) e).to)).toNat) rfl z7k rfl (z.mono s) (zb rfl au.1) (zm au) fun ds bO=>?_
 refine ig (i:=(((ior ((ix b a).fI) k)*(↑m.rows.length:Int))+((ix (ix m.rows ((ix b a).fG)) e).to)).toNat) (j:=0) rfl ty4 (z.mono s) rfl rfl bO (zm au) fun dt bP=>?_;obtain rfl:=yl.1 bP;refine zi (p9 rfl) (z8 (qa rfl d (fun d=>?_) (fun d=>?_)))
 refine zt (zl x (zl (vi (ior ((ix b a).fI) k)) (zl (vi (↑m.rows.length:Int)) ?_)));obtain⟨bQ,d⟩:=ze d;refine zi (zel rfl rfl bQ) (zl (vi ((ix (ix m.rows ((ix b a).fG)) e).to)) ?_);obtain⟨bR,d⟩:=ze d;refine zi (jg rfl rfl bR) ?_;obtain⟨av,d⟩:=ze d
 refine kg (i:=(((ior ((ix b a).fI) k)*(↑m.rows.length:Int))+((ix (ix m.rows ((ix b a).fG)) e).to)).toNat) rfl z7k rfl (z.mono s) (zb rfl av.1) (zm av) fun du bS=>?_
 refine gm (i:=(((ior ((ix b a).fI) k)*(↑m.rows.length:Int))+((ix (ix m.rows ((ix b a).fG)) e).to)).toNat) (j:=0) ty4 (z.mono s) rfl rfl bS (zm av) rfl (yl.2 rfl) fun bT bU=>?_
 refine z8 (zq (zl ab (zl (vi ((ix (ix m.rows ((ix b a).fG)) e).to)) (zl (vi (ior ((ix b a).fI) k)) (zl (vi a) (zl (vi e) (zi (kw (ps:=[(0,(vi ((ix (ix m.rows ((ix b a).fG)) e).to))),(1,(vi (ior ((ix b a).fI) k))),(2,(vi a)),(3,(vi e))]) (v:=(.agg #[(vi ((ix (ix m.rows ((ix b a).fG)) e).to)),(vi (ior ((ix b a).fI) k)),(vi a),(vi e)])) rfl (fun w=>by kernel_rfl)) ?_)))))))
 let G1:=([(⟨(ix (ix m.rows ((ix b a).fG)) e).to,ior ((ix b a).fI) k,a,e⟩:Sa)]:List Sa)
 refine bq (T:=kSgauntletref38_spot) (X:=G1) (ps:=[(0,(.agg #[(vi ((ix (ix m.rows ((ix b a).fG)) e).to)),(vi (ior ((ix b a).fI) k)),(vi a),(vi e)]))]) (css:=[[(vi ((ix (ix m.rows ((ix b a).fG)) e).to)),(vi (ior ((ix b a).fI) k)),(vi a),(vi e)]]) rfl underlying96 zzm rfl rfl (ko ⟨⟨_,_,rfl,rfl,⟨_,_,rfl,rfl,⟨_,_,rfl,rfl,rfl⟩⟩⟩,trivial⟩) rfl rfl (by decide) fun bV dv aC bW=>?_
 refine uk (i:=0) rfl bW fun bX W bY=>?_;have bZ:VRep (tSl true kSgauntletref38_spot) bX bV G1:=(z0l bY aC);obtain⟨aJ,d⟩:=ze d
 refine pz (i:=1) (X:=E) (Y:=G1) rfl underlying96 zzm rfl rfl rfl (ac.mono (s.trans W)) (jd (Sub.v (B:=(tSl false kSgauntletref38_spot)) (uh Sub.refl (fun _=>rfl)) bZ)) aJ.1 aJ.2 fun aK b0 b1=>?_;refine zn aK (z8 ?_)
 exact⟨dkt,(s.trans W),jm,(((up U (((ior ((ix b a).fI) k)*(↑m.rows.length:Int))+((ix (ix m.rows ((ix b a).fG)) e).to)) true),(E++G1)),bT,aK,b0),⟨rfl,trivial⟩,prm,(Option.some.inj d).symm,(bU.mono W),(K.trans List.length_set.symm),b1,trivial⟩;refine qc ?_
 exact⟨dkt,s,jm,((U,E),aq,ab,ar),⟨rfl,trivial⟩,prm,(Option.some.inj d).symm,(z.mono s),K,(ac.mono s),trivial⟩;rintro⟨ad,b2,b3,b4⟩ dw dx aU ⟨rfl,b5,aV,b6,_⟩;refine zq (zl (vi e) ?_);obtain⟨b7,n⟩:=ze n;refine zi (jg rfl rfl b7) (zn (vi (e+1)) (z8 ?_))
 exact⟨dkt,aU,jm,(aa,e+1,ad.1,ad.2,b2,b3,b4),Nat.lt_succ_self _,⟨rfl,rfl,trivial⟩,prm,n,b5,aV,b6,trivial⟩;refine jk ?_
 exact⟨dkt,I,jm,((U,E),aq,ab,ar),⟨rfl,trivial⟩,⟨[box P [(vi ((ix b a).fG)),(vi ((ix b a).fI)),(vi ((ix b a).fE)),(vi ((ix b a).fA))] 95],(pk 2 rfl (pk 0 rfl (pk 0 rfl (List.Perm.refl _))))⟩,(Option.some.inj n).symm,z,K,ac,trivial⟩
 rintro⟨b8,cF,cG,cH⟩ dy eb b9 ⟨rfl,cI,ca,cJ,_⟩;replace p:=z10 p;refine zq (zl (vi a) ?_);obtain⟨cb,p⟩:=ze p;refine zi (jg rfl rfl cb) (zn (vi (a+1)) (z8 ?_));exact⟨dkt,b9,jm,(ay,a+1,b8.1,b8.2,cF,cG,cH),Nat.lt_succ_self _,⟨rfl,rfl,trivial⟩,prm,p,cI,ca,cJ,trivial⟩
 refine jk ?_;exact⟨dkt,O,jm,(),trivial,⟨[aQ,az],(List.Perm.refl _)⟩,(Option.some.inj p).symm,trivial⟩;rintro ec dz ed cc ⟨rfl,_⟩;replace o:=z10 o;refine zt (zn vs0 (zn (.bool false) (z8 (qw ?_))));obtain rfl:=Option.some.inj o
 refine qg (D:=[]) (J:=[]) (rs:=[.tmp 4,.tmp 5]) (vs:=[vs0,(.bool false)]) ((aw.trans M).trans cc) rfl rfl ⟨rfl,rfl,trivial⟩ ?_;exact⟨rfl,⟨vs0,rfl,l8⟩⟩
theorem q44:Enters prog 19:=enters_of func19 rfl (by kernel_rfl)
end GV
end Go.Proofs.Ytdhccodneoebpaa
