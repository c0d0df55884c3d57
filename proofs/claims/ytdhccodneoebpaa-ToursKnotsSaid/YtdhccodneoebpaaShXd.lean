import Derived.Test.YtdhccodneoebpaaShWe
import Derived.Test.YtdhccodneoebpaaRows
set_option linter.unusedVariables false
set_option linter.unusedSimpArgs false
set_option linter.unusedSectionVars false
namespace Go.Proofs.Ytdhccodneoebpaa
namespace GV
open _root_.Go.Proofs.Try
open Go.IntWalk
set_option maxRecDepth 100000
set_option maxHeartbeats 20000000
theorem z2w{N:Nat}{R:RH}{m:Mach}{Q:Value}(aF:VRep (jl false false) R Q m){s:Int}{t:Int}{steps:Int}{r:Bool}(h:di N m s t steps=some r):CallP prog 40 #[Q,(vi s),(vi t),(vi steps)] R (fun v R'=>v=(.bool r)):=by
 refine qo (args:=[Q,(vi s),(vi t),(vi steps)]) func40 rfl rfl fun A=>?_;rw [di] at h;refine zl (uz (T:=(jl false false)) rfl rfl rfl aF fun v1 R3 Z h5 h2=>?_)
 refine zk (.bool false) (z8 (zx (zl (zm (vi s) (zm (vi t) (zi (ul rfl rfl) (z8 (zw rfl h (fun h=>?_) (fun h=>?_)))))))));refine zl (zk (.bool true) (z8 (ql ?_)));obtain rfl:=Option.some.inj h;refine qd (D:=[]) (J:=[]) (rs:=[.tmp 8]) (vs:=[(.bool true)]) Z rfl rfl ⟨rfl,trivial⟩ ?_;exact⟨rfl,rfl⟩
 refine qc (zl (jg rfl vz ug rfl h2 fun v7 h8=>?_));refine qp rfl z11 rfl h8 fun v9 aG=>?_;refine zi (qm rfl underlying25 rfl (jc aG)) ?_;obtain⟨E,h⟩:=zb h
 refine z1r (T:=vw) (m:=(↑m.rows.length:Int).toNat) (c:=(↑m.rows.length:Int).toNat) rfl underlying88 zo4 (ze rfl E.1) (ze rfl E.1) (Nat.le_refl _) (z2i E) (z2l E) fun a bi S aa=>?_;refine zk a (j4 (zm a (zm (vi s) ?_)));obtain⟨U,h⟩:=zb h
 refine uj (i:=s.toNat) rfl z8f rfl aa (ze rfl U.1) (zo U) fun bj aH=>?_;refine pg (i:=s.toNat) (j:=0) ty4 aa rfl rfl aH (zo U) rfl (xc.2 rfl) fun aI aJ=>?_;refine z8 ?_;obtain⟨p,e,h⟩:=zn h
 refine j6 (γ:=(List Bool)×Frag) (rs [10,14,24,62]) (fun g=>[]) (fun g=>[g.2]++A) (fun g R=>p=g.1∧ORep vw R g.2 a g.1∧capOf a=g.1.length∧True) ?_ ?_
 refine zl (zk (vi 0) (z8 (zy (kg (γ:=Nat×Int×(List Bool)×Frag) (rs [10,14,24,62]) (fun g=>[(10,(vi g.2.1))]) (fun g=>[g.2.2.2]++A) (fun g R=>gq N m steps g.1 g.2.1 g.2.2.1=some p∧ORep vw R g.2.2.2 a g.2.2.1∧capOf a=g.2.2.1.length∧True) (fun g=>g.1) (N,0,(up (mk (↑m.rows.length:Int) false) s true),aI) prm ⟨e,aJ,((S.trans List.length_replicate.symm).trans List.length_set.symm),trivial⟩ ?_))))
 clear e;rintro⟨F,u,V,ab⟩ aZ bk n ⟨e,ac,L,_⟩;rcases F with _|F;exact qy e;replace e:gq N m steps (F+1) u V=some p:=e;rw [gq] at e;refine zx (zl (zm (vi u) (zm (vi steps) (zi (jd rfl rfl) (z8 (zw rfl e (fun e=>?_) (fun e=>?_)))))))
 refine qc ?_;obtain⟨w,f,e⟩:=zn e;refine j6 (γ:=(List Bool)×Frag) (rs [11,14,29,62]) (fun g=>[]) (fun g=>[g.2]++A) (fun g R=>w=g.1∧ORep vw R g.2 a g.1∧capOf a=g.1.length∧True) ?_ ?_
 refine zy (zl (zk (vi 0) (z8 (zy (kg (γ:=Nat×Int×(List Bool)×Frag) (rs [11,14,29,62]) (fun g=>[(11,(vi g.2.1))]) (fun g=>[g.2.2.2]++A) (fun g R=>yw N m g.1 g.2.1 g.2.2.1=some w∧ORep vw R g.2.2.2 a g.2.2.1∧capOf a=g.2.2.1.length∧True) (fun g=>g.1) (N,0,V,ab) prm ⟨f,ac,L,trivial⟩ ?_)))))
 clear f;rintro⟨G,b,W,ad⟩ a0 bl o ⟨f,ae,M,_⟩;rcases G with _|G;exact qy f;replace f:yw N m (G+1) b W=some w:=f;rw [yw] at f;refine zx (zl (zm (vi b) (jg rfl vz ug rfl (h2.mono (n.trans o)) fun bm aK=>?_)))
 refine qp rfl z11 rfl aK fun bn aL=>?_;refine zi (qm rfl underlying25 rfl (jc aL)) (zi (jd rfl rfl) (z8 (zw rfl f (fun f=>?_) (fun f=>?_))));refine qc ?_;obtain⟨x,d,f⟩:=zn f
 refine j6 (γ:=(List Bool)×Frag) (rs [12,14,36,62]) (fun g=>[]) (fun g=>[g.2]++A) (fun g R=>x=g.1∧ORep vw R g.2 a g.1∧capOf a=g.1.length∧True) ?_ ?_
 refine zy (zl (zk (vi 0) (z8 (zy (kg (γ:=Nat×Int×(List Bool)×Frag) (rs [12,14,36,62]) (fun g=>[(12,(vi g.2.1))]) (fun g=>[g.2.2.2]++A) (fun g R=>wm N m b g.1 g.2.1 g.2.2.1=some x∧ORep vw R g.2.2.2 a g.2.2.1∧capOf a=g.2.2.1.length∧True) (fun g=>g.1) (N,0,W,ad) prm ⟨d,ae,M,trivial⟩ ?_)))))
 clear d;rintro⟨H,k,I,af⟩ a1 bo y ⟨d,q,z,_⟩;rcases H with _|H;exact qy d;replace d:wm N m b (H+1) k I=some x:=d;rw [wm] at d
 refine zx (zl (j5 (v:=(vi k)) rfl (za rfl) (zj1 rfl (ym z06 eu rfl (h2.mono ((n.trans o).trans y))) fun bp aM=>?_)))
 refine j5 rfl (y5 (jm ty3 rfl aM)) (j5 rfl (jd rfl rfl) (j5 (v:=(.bool (decide (k<m.inputs)))) rfl (za rfl) (qi rfl rfl rfl rfl (fun K=>qf (v:=a) (za rfl)) fun bq aN=>?_)));refine qi rfl rfl rfl rfl (fun K=>qf (v:=(vi b)) (za rfl)) fun br aO=>?_;obtain⟨X,d⟩:=zb d
 refine qi rfl rfl rfl rfl (fun K=>z15 (i:=b.toNat) z8f (aN.1 (zh rfl K)) q (ze (aO.1 (zh rfl K)) (X (zh rfl K)).1) (zo (X (zh rfl K)))) fun bs aP=>?_;refine qi rfl rfl rfl rfl (fun K=>qf (zfa (z9b (i:=b.toNat) (j:=0) ty4 q rfl rfl (aP.1 (zh rfl K)) (zo (X (zh rfl K)))))) fun bt aQ=>?_
 refine j5 rfl (u6 rfl (fun hb=>(aQ.1 (zh rfl hb))) rfl) (z8 (zw rfl d (fun d=>?_) (fun d=>?_)));refine qc ?_;obtain⟨Y,l,d⟩:=zn d;refine j6 (γ:=(List Bool)×Frag) (rs [13,14,48,62]) (fun g=>[]) (fun g=>[g.2]++A) (fun g R=>Y=g.1∧ORep vw R g.2 a g.1∧capOf a=g.1.length∧True) ?_ ?_
 refine zy (zl (jg rfl vz ug rfl (h2.mono ((n.trans o).trans y)) fun bv aR=>?_));refine qp rfl z11 rfl aR fun a2 ag=>?_;refine zm (vi b) ?_;obtain⟨O,l⟩:=zb l;refine ww (i:=b.toNat) rfl zf2 rfl (jc ag) (ze rfl O.1) (zo O) fun a3 ah=>?_
 refine qp rfl zdp rfl ah fun a4 ai=>?_;refine zm (vi k) ?_;obtain⟨P,l⟩:=zb l;refine ww (i:=k.toNat) rfl zhb rfl (jc ai) (ze rfl P.1) (zo P) fun a5 aj=>?_;refine jg rfl z6j z9c rfl aj fun a6 ak=>?_;refine qp rfl ty3 rfl ak fun a7 al=>?_;obtain rfl:=qh.1 al
 refine zk (vi ((ix (ix m.rows b) k).to)) (j4 (zm (vi ((ix (ix m.rows b) k).to)) (zi (gy rfl rfl) (z8 (zw rfl l (fun l=>?_) (fun l=>?_))))));refine zq (zm a (zm (vi ((ix (ix m.rows b) k).to)) ?_));obtain⟨B,l⟩:=zb l
 refine uj (i:=((ix (ix m.rows b) k).to).toNat) rfl z8f rfl q (ze rfl B.1) (zo B) fun a8 am=>?_;refine pg (i:=((ix (ix m.rows b) k).to).toNat) (j:=0) ty4 q rfl rfl am (zo B) rfl (xc.2 rfl) fun an ao=>?_;refine z8 ?_
 exact⟨dkt,(RH.le.refl _),jr,((up I ((ix (ix m.rows b) k).to) true),an),trivial,prm,(Option.some.inj l).symm,ao,(z.trans List.length_set.symm),trivial⟩;refine qc ?_;exact⟨dkt,(RH.le.refl _),jr,(I,af),trivial,prm,(Option.some.inj l).symm,q,z,trivial⟩;rintro⟨Y,aS⟩ a9 bw ap ⟨rfl,aT,aq,_⟩;refine zq (zm (vi k) ?_)
 obtain⟨ar,d⟩:=zb d;refine zi (je rfl rfl ar) (zk (vi (k+1)) (z8 ?_));exact⟨dkt,ap,jr,(H,k+1,Y,aS),Nat.lt_succ_self _,⟨rfl,trivial⟩,prm,d,aT,aq,trivial⟩;refine jq ?_;exact⟨dkt,y,jr,(I,af),trivial,prm,(Option.some.inj d).symm,q,z,trivial⟩;rintro⟨x,aU⟩ ba bx au ⟨rfl,aV,av,_⟩
 refine zq (zm (vi b) ?_);obtain⟨aw,f⟩:=zb f;refine zi (je rfl rfl aw) (zk (vi (b+1)) (z8 ?_));exact⟨dkt,au,jr,(G,b+1,x,aU),Nat.lt_succ_self _,⟨rfl,trivial⟩,prm,f,aV,av,trivial⟩;refine jq ?_;exact⟨dkt,o,jr,(W,ad),trivial,prm,(Option.some.inj f).symm,ae,M,trivial⟩
 rintro⟨w,aW⟩ bb bz ax ⟨rfl,aX,ay,_⟩;refine zq (zm (vi u) ?_);obtain⟨az,e⟩:=zb e;refine zi (je rfl rfl az) (zk (vi (u+1)) (z8 ?_));exact⟨dkt,ax,jr,(F,u+1,w,aW),Nat.lt_succ_self _,⟨rfl,trivial⟩,prm,e,aX,ay,trivial⟩;refine jq ?_
 exact⟨dkt,n,jr,(V,ab),trivial,prm,(Option.some.inj e).symm,ac,L,trivial⟩;rintro⟨p,aY⟩ bc bA aA ⟨rfl,aB,be,_⟩;refine zl (zm a (zm (vi t) ?_));obtain⟨C,h⟩:=zb h;refine uj (i:=t.toNat) rfl z8f rfl aB (ze rfl C.1) (zo C) fun bf aC=>?_
 refine z0g (i:=t.toNat) (j:=0) rfl ty4 aB rfl rfl aC (zo C) fun bg aD=>?_;obtain rfl:=xc.1 aD;refine zk (.bool (ix p t)) (z8 (ql ?_));obtain rfl:=Option.some.inj h;refine qd (D:=[]) (J:=[aY]) (rs:=[.tmp 8]) (vs:=[(.bool (ix p t))]) (Z.trans aA) rfl rfl ⟨rfl,trivial⟩ ?_;exact⟨rfl,rfl⟩
theorem zvo:Enters prog 40:=enters_of func40 rfl (by kernel_rfl)
end GV
end Go.Proofs.Ytdhccodneoebpaa
