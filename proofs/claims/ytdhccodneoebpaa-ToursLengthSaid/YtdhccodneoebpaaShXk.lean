import Derived.Test.YtdhccodneoebpaaShWe
import Derived.Test.YtdhccodneoebpaaShXa
import Derived.Test.YtdhccodneoebpaaShXb
import Derived.Test.YtdhccodneoebpaaShXc
import Derived.Test.YtdhccodneoebpaaShXe
import Derived.Test.YtdhccodneoebpaaShXg
import Derived.Test.YtdhccodneoebpaaShXh
import Derived.Test.YtdhccodneoebpaaRows
set_option linter.unusedVariables false
set_option linter.unusedSimpArgs false
set_option linter.unusedSectionVars false
namespace Go.Proofs.Ytdhccodneoebpaa
namespace GV
open _root_.Go.Proofs.Try
open Go.IntWalk
set_option maxRecDepth 100000
set_option maxHeartbeats 20000000
theorem q0h:ZeroOk prog 95 kSgauntletref38_spot (⟨(0:Int),(0:Int),(0:Int),(0:Int)⟩:Sc) 32:=by
 obtain⟨i,zv,hi,a,c,d,f⟩:=z11 (P:=prog) (e:=95) (zv:=(.agg #[(vi 0),(vi 0),(vi 0),(vi 0)])) (k:=4) (b:=32) (by kernel_rfl);exact⟨i,zv,hi,a,c,d,fun R=>by subst f;exact⟨_,_,rfl,rfl,⟨_,_,rfl,rfl,⟨_,_,rfl,rfl,rfl⟩⟩⟩⟩
theorem q3p:TyOk prog 95 kSgauntletref38_spot:=by
 obtain⟨i,hi,a⟩: ∃ i,prog.info? 95=some i∧i.size=4:=jf (by kernel_rfl);exact ib underlying95 hi rfl a
theorem zz8:SlOk prog 96 95 kSgauntletref38_spot:=⟨underlying96,q3p⟩
theorem q5p: ∀ w,∃ z,(zeroValue 95).run prog w= .ok z w∧z.cells=([.int .i64 0,.int .i64 0,.int .i64 0,.int .i64 0]:List Value).toArray:=fun w=>⟨(.agg #[(vi 0),(vi 0),(vi 0),(vi 0)]),by kernel_rfl,rfl⟩
theorem q55: ∀ w,(sizeOf 95).run prog w= .ok 4 w:=fun w=>by kernel_rfl
theorem zxw:FieldOk prog 95 1 1:=by
 obtain⟨i,hi,a⟩: ∃ i,prog.info? 3=some i∧i.size=1:=jf (by kernel_rfl);exact uo underlying95 rfl rfl hi (by rw [a];rfl)
theorem zqd:FieldOk prog 95 0 0:=by
 obtain⟨i,hi,a⟩: ∃ i,prog.info? 3=some i∧i.size=1:=jf (by kernel_rfl);exact uo underlying95 rfl rfl hi (by rw [a];rfl)
theorem zvs:FieldOk prog 95 2 2:=by
 obtain⟨i,hi,a⟩: ∃ i,prog.info? 3=some i∧i.size=1:=jf (by kernel_rfl);exact uo underlying95 rfl rfl hi (by rw [a];rfl)
theorem q2f:FieldOk prog 95 3 3:=by
 obtain⟨i,hi,a⟩: ∃ i,prog.info? 3=some i∧i.size=1:=jf (by kernel_rfl);exact uo underlying95 rfl rfl hi (by rw [a];rfl)
theorem zcn{N:Nat}{R:RH}{m:Mach}{aL:Value}(aM:VRep (jg false false) R aL m){round:Bool}{r:(List Int)×Bool}(o:z16 N m round=some r):CallP prog 19 #[aL,(.bool round)] R (fun v R'=> ∃ u0,v= .tuple #[u0,(.bool r.2)]∧VRep (tSl false (zy .i64)) R' u0 r.1):=by
 refine qp (args:=[aL,(.bool round)]) func19 rfl rfl fun A=>?_;rw [z16] at o;refine zo (y5 (T:=(jg false false)) rfl rfl rfl aM fun v1 R3 aw h5 h2=>?_);refine zm vs0 (zm (.bool false) (j4 (zi (ko z1i rfl rfl h5 (aM.mono aw)) ?_)));obtain⟨y6,c7,o⟩:=zu o
 refine jl rfl q0r rfl (z3t (aM.mono aw) c7) fun v8 dD M h9=>?_;refine zm v8 (j4 (zl v8 (zi (qx rfl underlying49 rfl (je h9)) ?_)));obtain⟨ci,o⟩:=za o;refine zi (zev rfl rfl ci) ?_;obtain⟨cj,o⟩:=za o
 refine zi (z1g rfl rfl cj) (zm (vi ((z1w .i64 (1:Int) (↑y6.length:Int))-1)) (j4 (jq rfl dx vw rfl (h2.mono M) fun dE ck=>?_)));refine j3 rfl z4r rfl ck fun dF cl=>?_
 refine zi (qx rfl underlying25 rfl (je cl)) (zm (vi (↑m.rows.length:Int)) (j4 (zl (vi (↑m.rows.length:Int)) (zl (vi ((z1w .i64 (1:Int) (↑y6.length:Int))-1)) ?_))));obtain⟨cm,o⟩:=za o;refine zi (ji rfl rfl cm) ?_;obtain⟨cn,o⟩:=za o;refine zi (zd4 rfl rfl cn) ?_;obtain⟨ax,o⟩:=za o
 refine z2m (T:=ww) (m:=((↑m.rows.length:Int)*(((z1w .i64 (1:Int) (↑y6.length:Int))-1)+1)).toNat) (c:=((↑m.rows.length:Int)*(((z1w .i64 (1:Int) (↑y6.length:Int))-1)+1)).toNat) rfl underlying88 zo4 (zb rfl ax.1) (zb rfl ax.1) (Nat.le_refl _) (z3v ax) (z3u ax) fun x dG aN aX=>?_
 refine zm x (j4 (zi (jy (ps:=[(0,(vi 0)),(1,(vi 0)),(2,(vi (-1))),(3,(vi 0))]) (v:=(.agg #[(vi 0),(vi 0),(vi (-1)),(vi 0)])) rfl (fun w=>by kernel_rfl)) (bv (T:=kSgauntletref38_spot) (X:=([(⟨0,0,(-1),0⟩:Sc)]:List Sc)) (ps:=[(0,(.agg #[(vi 0),(vi 0),(vi (-1)),(vi 0)]))]) (css:=[[(vi 0),(vi 0),(vi (-1)),(vi 0)]]) rfl underlying96 q0h rfl rfl (jv ⟨⟨_,_,rfl,rfl,⟨_,_,rfl,rfl,⟨_,_,rfl,rfl,rfl⟩⟩⟩,trivial⟩) rfl rfl (by decide) fun aY co cp cq=>?_)))
 refine zm aY (j4 (zl x ?_));obtain⟨aO,o⟩:=za o;refine ku (i:=(0:Int).toNat) rfl z88 rfl aX (zb rfl aO.1) (zn aO) fun dH cr=>?_;refine p8 (i:=(0:Int).toNat) (j:=1) ty4 aX rfl rfl cr (zn aO) rfl (yl.2 rfl) fun cs ct=>?_;refine z8 ?_;obtain⟨aP,p,o⟩:=zu o
 refine jb (γ:=Unit) (rs [4,6,10,18,36,130]) (fun g=>[]) (fun g=>[]++A) (fun g R=>aP=Ex.go g∧True) ?_ ?_
 refine zo (zm (vi 0) (z8 (zz (ky (γ:=Nat×Int×(List Bool)×(List Sc)×Frag×Value×Frag) (rs [4,6,10,18,36,130]) (fun g=>[(10,g.2.2.2.2.2.1),(11,(vi g.2.1))]) (fun g=>[g.2.2.2.2.1,g.2.2.2.2.2.2]++A) (fun g R=>mf N m round y6 g.1 g.2.1 g.2.2.1 g.2.2.2.1=some aP∧ORep ww R g.2.2.2.2.1 x g.2.2.1∧capOf x=g.2.2.1.length∧ORep kSgauntletref38_spot R g.2.2.2.2.2.2 g.2.2.2.2.2.1 g.2.2.2.1∧True) (fun g=>g.1) (N,0,(up (mk ((↑m.rows.length:Int)*(((z1w .i64 (1:Int) (↑y6.length:Int))-1)+1)) false) 0 true),([(⟨0,0,(-1),0⟩:Sc)]:List Sc),cs,aY,co) ⟨[],(pk 1 rfl (pk 0 rfl (List.Perm.refl _)))⟩ ⟨p,ct,((aN.trans List.length_replicate.symm).trans List.length_set.symm),cq,trivial⟩ ?_))))
 clear p;rintro⟨ay,a,aZ,b,aQ,F,az⟩ cM dI O ⟨p,cu,a0,C,_⟩;rcases ay with _|ay;exact j6 p;replace p:mf N m round y6 (ay+1) a aZ b=some aP:=p;rw [mf] at p
 refine q9 (zo (zl (vi a) (zl F (zi (ow rfl underlying96 rfl C) (zi (jk rfl rfl) (z8 (qa rfl p (fun p=>?_) (fun p=>?_))))))));refine qc ?_;obtain⟨aR,n,p⟩:=zu p
 refine jb (γ:=(List Bool×List Sc)×Frag×Value×Frag) (rs [4,6,10,11,12,18,42,130]) (fun g=>[(10,g.2.2.1)]) (fun g=>[g.2.1,g.2.2.2]++A) (fun g R=>aR=Ex.go g.1∧ORep ww R g.2.1 x g.1.1∧capOf x=g.1.1.length∧ORep kSgauntletref38_spot R g.2.2.2 g.2.2.1 g.1.2∧True) ?_ ?_;refine zz (zo (zl F (zl (vi a) ?_)))
 obtain⟨aS,n⟩:=za n;refine ku (i:=a.toNat) rfl zz8 rfl C (zb rfl aS.1) (zn aS) fun dJ cv=>?_;refine lg (i:=a.toNat) (j:=1) rfl q3p C rfl rfl cv (zn aS) fun dK cw=>?_;obtain rfl:=za0.1 cw;refine jc rfl q5p fun P=>?_
 refine ql (i:=0) (vs:=[(vi ((ix b a).fG)),(vi ((ix b a).fI)),(vi ((ix b a).fD)),(vi ((ix b a).fA))]) q55 rfl rfl rfl rfl rfl rfl (qb rfl (qb rfl (qb rfl (qb rfl qy)))) ?_
 refine z8 (q9 (zo (jd (v:=(.pointer (some ⟨P,1,none⟩))) rfl (qd zxw rfl) (jd (v:=(vi ((ix b a).fI))) rfl (zf (i:=0) ag3 rfl rfl rfl) (jd (v:=(vi ((z1w .i64 (1:Int) (↑y6.length:Int))-1))) rfl (zg rfl) (jd rfl (uu rfl rfl) (jd (v:=(.bool (decide (((ix b a).fI)=((z1w .i64 (1:Int) (↑y6.length:Int))-1))))) rfl (zg rfl) (j5 rfl rfl rfl rfl (fun hB=>qi (v:=(.bool round)) (zg rfl)) fun dL cx=>?_))))))))
 refine j5 rfl rfl rfl rfl (fun hB=>qi (tu (cx.1 (zk rfl hB)))) fun dM cy=>?_;refine j5 rfl rfl rfl rfl (fun hB=>qi (v:=(.bool (!round))) (zg (cy.1 (zk rfl hB)))) fun dN aA=>?_;refine zgu rfl rfl rfl aA (fun hG hB=>qi (v:=(.pointer (some ⟨P,0,none⟩))) (qd zqd rfl)) fun dO cz=>?_
 refine zgu rfl rfl rfl aA (fun hG hB=>qi (v:=(vi ((ix b a).fG))) (zf (i:=0) ag3 (cz.1 (zk hG hB)) rfl rfl)) fun dP cA=>?_;refine zgu rfl rfl rfl aA (fun hG hB=>qi (uu (cA.1 (zk hG hB)) rfl)) fun dQ cB=>?_
 refine j5 rfl rfl rfl rfl (fun hB=>qi (z2k (aA.1 (zk rfl hB)) rfl (fun hb=>(cB.1 (zk (zk rfl hB) hb))))) fun dR cD=>?_;refine jd rfl (uk rfl (fun hb=>(cD.1 (zk rfl hb))) rfl) (z8 (qa rfl n (fun n=>?_) (fun n=>?_)));refine zo (zm vs0 (z8 ?_));obtain⟨ah,d,n⟩:=zu n
 refine jb (γ:=(List Int)×Value×Frag) (rs [13,15,59,79]) (fun g=>[(13,g.2.1)]) (fun g=>[g.2.2]++A) (fun g R=>ah=g.1∧ORep (zy .i64) R g.2.2 g.2.1 g.1∧True) ?_ ?_;refine zo (zl (vi a) (zm (vi a) (z8 (zz (z4z ?_)))))
 refine ky (γ:=Nat×(List Int)×Int×Value×Frag) (rs [13,15,60,79]) (fun g=>[(13,g.2.2.2.1),(14,(vi g.2.2.1))]) (fun g=>[az,g.2.2.2.2]++A) (fun g R=>ma N b g.1 g.2.1 g.2.2.1=some ah∧ORep (zy .i64) R g.2.2.2.2 g.2.2.2.1 g.2.1∧True) (fun g=>g.1) (N,[],a,vs0,emp) ⟨[box P [(vi ((ix b a).fG)),(vi ((ix b a).fI)),(vi ((ix b a).fD)),(vi ((ix b a).fA))] 95,aQ],(pk 1 rfl (pk 1 rfl (pk 1 rfl (pk 0 rfl (List.Perm.refl _)))))⟩ ⟨d,(z0y (T:=(zy .i64))),trivial⟩ ?_
 clear d;rintro⟨Z,Q,f,ai,a1⟩ cN cO u ⟨d,aD,_⟩;rcases Z with _|Z;exact j6 d;replace d:ma N b (Z+1) Q f=some ah:=d;rw [ma] at d;refine q9 (zo (zl F (zl (vi f) ?_)));obtain⟨aj,d⟩:=za d
 refine ku (i:=f.toNat) rfl zz8 rfl (C.mono u) (zb rfl aj.1) (zn aj) fun cP a2=>?_;refine lm rfl (z3n zvs rfl a2) fun a3 cQ q ak=>?_;replace ak:z4y kSgauntletref38_spot 2 F b a3 f.toNat:=ak
 refine lm rfl (uj (z4s (i:=f.toNat) (j:=0) ty3 z5x (C.mono (u.trans q)) rfl rfl ak (zn aj)) (fun _ _ h=>qj.1 h)) fun cR cS t a4=>?_;obtain rfl:=Eq.symm a4;refine zi (z7f rfl rfl) (z8 (qa rfl d (fun d=>?_) (fun d=>?_)))
 refine qc (q9 (zz (zt (zl F (zl (vi f) ?_)))));obtain⟨al,d⟩:=za d;refine ku (i:=f.toNat) rfl zz8 rfl (C.mono ((u.trans q).trans t)) (zb rfl al.1) (zn al) fun cT a5=>?_;refine lm rfl (z3n q2f rfl a5) fun a6 cU y am=>?_
 replace am:z4y kSgauntletref38_spot 3 F b a6 f.toNat:=am;refine lm rfl (uj (z4s (i:=f.toNat) (j:=0) ty3 zaf (C.mono (((u.trans q).trans t).trans y)) rfl rfl am (zn al)) (fun _ _ h=>qj.1 h)) fun cV cW G a7=>?_;obtain rfl:=Eq.symm a7
 refine bv (T:=(zy .i64)) (X:=([(ix b f).fA]:List Int)) (ps:=[(0,(vi ((ix b f).fA)))]) (css:=[[(vi ((ix b f).fA))]]) rfl underlying36 zo3 rfl rfl (jv ⟨rfl,trivial⟩) rfl rfl (by decide) fun cX cY ce a8=>?_
 refine zl ai (u7 (i:=2) rfl (aD.mono (((q.trans t).trans y).trans G)) fun a9 H ba=>?_);have bb:VRep (tSl false (zy .i64)) a9 ai Q:=(z6h ba);obtain⟨aE,d⟩:=za d
 refine gq (i:=0) (X:=([(ix b f).fA]:List Int)) (Y:=Q) rfl underlying36 zo3 rfl rfl rfl (a8.mono H) (je bb) aE.1 aE.2 fun aF bc be=>?_;refine zm aF (z8 (zt (zl F (zl (vi f) ?_))));obtain⟨an,d⟩:=za d
 refine ku (i:=f.toNat) rfl zz8 rfl (C.mono (((((u.trans q).trans t).trans y).trans G).trans H)) (zb rfl an.1) (zn an) fun cZ bf=>?_;refine lm rfl (z3n zvs rfl bf) fun bg c0 V ao=>?_;replace ao:z4y kSgauntletref38_spot 2 F b bg f.toNat:=ao
 refine lm rfl (uj (z4s (i:=f.toNat) (j:=1) ty3 z5x (C.mono ((((((u.trans q).trans t).trans y).trans G).trans H).trans V)) rfl rfl ao (zn an)) (fun _ _ h=>qj.1 h)) fun c1 c2 ap bh=>?_;obtain rfl:=Eq.symm bh;refine zm (vi ((ix b f).fD)) (z8 ?_)
 exact⟨dkt,((((((q.trans t).trans y).trans G).trans H).trans V).trans ap),jr,(Z,(([(ix b f).fA]:List Int)++Q),(ix b f).fD,aF,bc),Nat.lt_succ_self _,⟨rfl,rfl,trivial⟩,⟨[],(pk 1 rfl (pk 0 rfl (List.Perm.refl _)))⟩,d,(be.mono (V.trans ap)),trivial⟩;refine jm ?_
 exact⟨dkt,((u.trans q).trans t),jr,(Q,ai,a1),⟨rfl,trivial⟩,⟨[az],(List.Perm.refl _)⟩,(Option.some.inj d).symm,(aD.mono (q.trans t)),trivial⟩;rintro⟨ah,S,aG⟩ c3 dS bi ⟨rfl,bj,_⟩;refine zo (zl S (zm S (zm (.bool true) (z8 (tq (i:=0) rfl bj fun bk aT bl=>?_)))))
 have bm:VRep (tSl false (zy .i64)) bk S ah:=(z6h bl);refine qw ?_;replace p:=z3x n p;replace o:=z3x p o;obtain rfl:=Option.some.inj o;refine qh (D:=[]) (J:=[]) (rs:=[.tmp 4,.tmp 5]) (vs:=[S,(.bool true)]) ((((aw.trans M).trans O).trans bi).trans aT) rfl rfl ⟨rfl,rfl,trivial⟩ ?_;exact⟨rfl,⟨S,rfl,bm⟩⟩
 refine qc (zo (zm (vi 0) (z8 (zz (ky (γ:=Nat×Int×(List Bool)×(List Sc)×Frag×Value×Frag) (rs [10,11,15,18,80,130]) (fun g=>[(10,g.2.2.2.2.2.1),(15,(vi g.2.1))]) (fun g=>[g.2.2.2.2.1,g.2.2.2.2.2.2,box P [(vi ((ix b a).fG)),(vi ((ix b a).fI)),(vi ((ix b a).fD)),(vi ((ix b a).fA))] 95]++A) (fun g R=>y7 N m y6 a b g.1 g.2.1 g.2.2.1 g.2.2.2.1=some aR∧ORep ww R g.2.2.2.2.1 x g.2.2.1∧capOf x=g.2.2.1.length∧ORep kSgauntletref38_spot R g.2.2.2.2.2.2 g.2.2.2.2.2.1 g.2.2.2.1∧True) (fun g=>g.1) (N,0,aZ,b,aQ,F,az) ⟨[],(pk 1 rfl (pk 1 rfl (pk 0 rfl (List.Perm.refl _))))⟩ ⟨n,cu,a0,C,trivial⟩ ?_)))))
 clear n;rintro⟨aa,e,U,E,aq,ab,ar⟩ c4 c5 I ⟨n,z,K,ac,_⟩;rcases aa with _|aa;exact j6 n;replace n:y7 N m y6 a b (aa+1) e U E=some aR:=n;rw [y7] at n
 refine q9 (zo (zl (vi e) (jq rfl z3q z1s rfl (h2.mono ((M.trans O).trans I)) fun c6 bn=>?_)));refine j3 rfl ty3 rfl bn fun c8 bo=>?_;obtain rfl:=qj.1 bo;refine zi (jk rfl rfl) (z8 (qa rfl n (fun n=>?_) (fun n=>?_)));refine qc ?_;obtain⟨ad,d,n⟩:=zu n
 refine jb (γ:=(List Bool×List Sc)×Frag×Value×Frag) (rs [10,11,16,18,86,130]) (fun g=>[(10,g.2.2.1)]) (fun g=>[g.2.1,g.2.2.2,box P [(vi ((ix b a).fG)),(vi ((ix b a).fI)),(vi ((ix b a).fD)),(vi ((ix b a).fA))] 95]++A) (fun g R=>ad=g.1∧ORep ww R g.2.1 x g.1.1∧capOf x=g.1.1.length∧ORep kSgauntletref38_spot R g.2.2.2 g.2.2.1 g.1.2∧True) ?_ ?_
 refine zz (zo (jq rfl dx vw rfl (h2.mono ((M.trans O).trans I)) fun c9 bp=>?_));refine j3 rfl z4r rfl bp fun da bq=>?_;refine zi (qd zqd rfl) (zi (zf (i:=2) ag3 rfl rfl rfl) ?_);obtain⟨aH,d⟩:=za d
 refine yj (i:=((ix b a).fG).toNat) rfl zmy rfl (je bq) (zb rfl aH.1) (zn aH) fun db br=>?_;refine j3 rfl zk8 rfl br fun dc bs=>?_;refine zl (vi e) ?_;obtain⟨aI,d⟩:=za d;refine yj (i:=e.toNat) rfl zmj rfl (je bs) (zb rfl aI.1) (zn aI) fun dd bt=>?_
 refine jq rfl za6 zb4 rfl bt fun de bu=>?_;refine j3 rfl ty3 rfl bu fun df bw=>?_;obtain rfl:=qj.1 bw
 refine zm (vi ((ix (ix m.rows ((ix b a).fG)) e).to)) (z8 (q9 (zo (zl (vi ((ix (ix m.rows ((ix b a).fG)) e).to)) (zi (uu rfl rfl) (z8 (qa rfl d (fun d=>?_) (fun d=>?_))))))));refine jm ?_
 exact⟨dkt,(RH.le.refl _),jr,((U,E),aq,ab,ar),⟨rfl,trivial⟩,prm,(Option.some.inj d).symm,z,K,ac,trivial⟩;refine qc (q9 ?_);obtain⟨k,bx,d⟩:=zu d;obtain⟨bz,d⟩:=za d
 refine ou 9 [] [phX (.pointer (some ⟨P,1,none⟩)),phX (vi ((ix b a).fI)),phX v8,phX (.pointer (some ⟨P,0,none⟩)),phX (vi ((ix b a).fG)),phX (vi e),phX (vi k),phX (vi (ior ((ix b a).fI) k)),phX (vi (ior ((ix b a).fI) k))] mixed (by kernel_rfl) (ng ⟨zq,zq,zq,zq,zq,zq,zq,zq,zq,trivial⟩) ⟨?_,?_,?_,?_,?_,?_,?_,?_,?_,trivial⟩ fun dg s=>?_
 intro l dT L ha hd;exact ze rfl rfl rfl (zx (qd zxw (ha 12 rfl)));rintro l dU L ha ⟨d0,_⟩;exact ze rfl rfl rfl (zx (zf (i:=2) ag3 (d0 rfl) rfl rfl));intro l dV L ha hd;exact ze rfl rfl rfl (zx (zg (ha 6 rfl)));intro l dW L ha hd;exact ze rfl rfl rfl (zx (qd zqd (ha 12 rfl)))
 rintro l dX L ha ⟨d0,_⟩;have aG:=d0 rfl;exact ze rfl rfl rfl (zx (zf (i:=2) ag3 aG rfl rfl));intro l dY L ha hd;exact ze rfl rfl rfl (zx (zg (ha 15 rfl)));rintro l dZ L ha ⟨d0,d1,d2,_⟩;have bA:l 100=v8:=d0 rfl;have bB:l 102=(vi ((ix b a).fG)):=d1 rfl;have bC:l 103=(vi e):=d2 rfl
 exact ze rfl rfl rfl (yh (vs:=[v8,(vi ((ix b a).fG)),(vi e)]) q4o (by simp only [List.map,ev,bA,bB,bC]<;>rfl) (zdj ((h9.mono (O.trans I)).mono L) bx) (fun _ _ h=>h));rintro l ea L ha ⟨d0,d1,_⟩;exact ze rfl rfl rfl (zx (zrw (d0 rfl) (d1 rfl) bz))
 rintro l eb L ha ⟨d0,d1,d2,d3,d4,d5,d6,d7,d8,d9,_⟩;exact ze rfl rfl rfl (zx (iq (d0 rfl)));intro di bD dj bE dk bF dl bG dm bH dn bI dp bJ dq bK dr bL;obtain rfl:=Eq.symm bD;obtain rfl:=Eq.symm bE;obtain rfl:=Eq.symm bF;obtain rfl:=Eq.symm bG;obtain rfl:=Eq.symm bH;obtain rfl:=Eq.symm bI
 obtain rfl:=Eq.symm bJ;obtain rfl:=Eq.symm bK;obtain rfl:=Eq.symm bL;refine j4 (zl x (zl (vi (ior ((ix b a).fI) k)) (zl (vi (↑m.rows.length:Int)) ?_)));obtain⟨bM,d⟩:=za d;refine zi (zd4 rfl rfl bM) (zl (vi ((ix (ix m.rows ((ix b a).fG)) e).to)) ?_);obtain⟨bN,d⟩:=za d
 refine zi (ji rfl rfl bN) ?_;obtain⟨au,d⟩:=za d;refine ku (i:=(((ior ((ix b a).fI) k)*(↑m.rows.length:Int))+((ix (ix m.rows ((ix b a).fG)) e).to)).toNat) rfl z88 rfl (z.mono s) (zb rfl au.1) (zn au) fun ds bO=>?_
 refine lg (i:=(((ior ((ix b a).fI) k)*(↑m.rows.length:Int))+((ix (ix m.rows ((ix b a).fG)) e).to)).toNat) (j:=0) rfl ty4 (z.mono s) rfl rfl bO (zn au) fun dt bP=>?_;obtain rfl:=yl.1 bP;refine zi (tu rfl) (z8 (qa rfl d (fun d=>?_) (fun d=>?_)))
 refine zo (zl x (zl (vi (ior ((ix b a).fI) k)) (zl (vi (↑m.rows.length:Int)) ?_)));obtain⟨bQ,d⟩:=za d;refine zi (zd4 rfl rfl bQ) (zl (vi ((ix (ix m.rows ((ix b a).fG)) e).to)) ?_);obtain⟨bR,d⟩:=za d;refine zi (ji rfl rfl bR) ?_;obtain⟨av,d⟩:=za d
 refine ku (i:=(((ior ((ix b a).fI) k)*(↑m.rows.length:Int))+((ix (ix m.rows ((ix b a).fG)) e).to)).toNat) rfl z88 rfl (z.mono s) (zb rfl av.1) (zn av) fun du bS=>?_
 refine p8 (i:=(((ior ((ix b a).fI) k)*(↑m.rows.length:Int))+((ix (ix m.rows ((ix b a).fG)) e).to)).toNat) (j:=0) ty4 (z.mono s) rfl rfl bS (zn av) rfl (yl.2 rfl) fun bT bU=>?_
 refine z8 (zt (zl ab (zl (vi ((ix (ix m.rows ((ix b a).fG)) e).to)) (zl (vi (ior ((ix b a).fI) k)) (zl (vi a) (zl (vi e) (zi (jy (ps:=[(0,(vi ((ix (ix m.rows ((ix b a).fG)) e).to))),(1,(vi (ior ((ix b a).fI) k))),(2,(vi a)),(3,(vi e))]) (v:=(.agg #[(vi ((ix (ix m.rows ((ix b a).fG)) e).to)),(vi (ior ((ix b a).fI) k)),(vi a),(vi e)])) rfl (fun w=>by kernel_rfl)) ?_)))))))
 let G1:=([(⟨(ix (ix m.rows ((ix b a).fG)) e).to,ior ((ix b a).fI) k,a,e⟩:Sc)]:List Sc)
 refine bv (T:=kSgauntletref38_spot) (X:=G1) (ps:=[(0,(.agg #[(vi ((ix (ix m.rows ((ix b a).fG)) e).to)),(vi (ior ((ix b a).fI) k)),(vi a),(vi e)]))]) (css:=[[(vi ((ix (ix m.rows ((ix b a).fG)) e).to)),(vi (ior ((ix b a).fI) k)),(vi a),(vi e)]]) rfl underlying96 q0h rfl rfl (jv ⟨⟨_,_,rfl,rfl,⟨_,_,rfl,rfl,⟨_,_,rfl,rfl,rfl⟩⟩⟩,trivial⟩) rfl rfl (by decide) fun bV dv aC bW=>?_
 refine u7 (i:=0) rfl bW fun bX W bY=>?_;have bZ:VRep (tSl true kSgauntletref38_spot) bX bV G1:=(z0d bY aC);obtain⟨aJ,d⟩:=za d
 refine gq (i:=1) (X:=E) (Y:=G1) rfl underlying96 q0h rfl rfl rfl (ac.mono (s.trans W)) (je (Sub.v (B:=(tSl false kSgauntletref38_spot)) (uh Sub.refl (fun _=>rfl)) bZ)) aJ.1 aJ.2 fun aK b0 b1=>?_;refine zm aK (z8 ?_)
 exact⟨dkt,(s.trans W),jr,(((up U (((ior ((ix b a).fI) k)*(↑m.rows.length:Int))+((ix (ix m.rows ((ix b a).fG)) e).to)) true),(E++G1)),bT,aK,b0),⟨rfl,trivial⟩,prm,(Option.some.inj d).symm,(bU.mono W),(K.trans List.length_set.symm),b1,trivial⟩;refine qc ?_
 exact⟨dkt,s,jr,((U,E),aq,ab,ar),⟨rfl,trivial⟩,prm,(Option.some.inj d).symm,(z.mono s),K,(ac.mono s),trivial⟩;rintro⟨ad,b2,b3,b4⟩ dw dy aU ⟨rfl,b5,aV,b6,_⟩;refine zt (zl (vi e) ?_);obtain⟨b7,n⟩:=za n;refine zi (ji rfl rfl b7) (zm (vi (e+1)) (z8 ?_))
 exact⟨dkt,aU,jr,(aa,e+1,ad.1,ad.2,b2,b3,b4),Nat.lt_succ_self _,⟨rfl,rfl,trivial⟩,prm,n,b5,aV,b6,trivial⟩;refine jm ?_
 exact⟨dkt,I,jr,((U,E),aq,ab,ar),⟨rfl,trivial⟩,⟨[box P [(vi ((ix b a).fG)),(vi ((ix b a).fI)),(vi ((ix b a).fD)),(vi ((ix b a).fA))] 95],(pk 2 rfl (pk 0 rfl (pk 0 rfl (List.Perm.refl _))))⟩,(Option.some.inj n).symm,z,K,ac,trivial⟩
 rintro⟨b8,cF,cG,cH⟩ dz ec b9 ⟨rfl,cI,ca,cJ,_⟩;replace p:=z1n p;refine zt (zl (vi a) ?_);obtain⟨cb,p⟩:=za p;refine zi (ji rfl rfl cb) (zm (vi (a+1)) (z8 ?_));exact⟨dkt,b9,jr,(ay,a+1,b8.1,b8.2,cF,cG,cH),Nat.lt_succ_self _,⟨rfl,rfl,trivial⟩,prm,p,cI,ca,cJ,trivial⟩
 refine jm ?_;exact⟨dkt,O,jr,(),trivial,⟨[aQ,az],(List.Perm.refl _)⟩,(Option.some.inj p).symm,trivial⟩;rintro ed dA ee cc ⟨rfl,_⟩;replace o:=z1n o;refine zo (zm vs0 (zm (.bool false) (z8 (qw ?_))));obtain rfl:=Option.some.inj o
 refine qh (D:=[]) (J:=[]) (rs:=[.tmp 4,.tmp 5]) (vs:=[vs0,(.bool false)]) ((aw.trans M).trans cc) rfl rfl ⟨rfl,rfl,trivial⟩ ?_;exact⟨rfl,⟨vs0,rfl,z0o⟩⟩
theorem q5w:Enters prog 19:=enters_of func19 rfl (by kernel_rfl)
end GV
end Go.Proofs.Ytdhccodneoebpaa
