import Derived.Test.YtdhccodneoebpaaShWe
import Derived.Test.YtdhccodneoebpaaRows
set_option linter.unusedVariables false
set_option linter.unusedSimpArgs false
set_option linter.unusedSectionVars false
namespace Go.Proofs.Ytdhccodneoebpaa
namespace GV
open _root_.Go.Proofs.Try
open Go.IntWalk
set_option maxRecDepth 100000
set_option maxHeartbeats 20000000
theorem z6n{N:Nat}{R:RH}{m:Mach}{Q:Value}(aH:VRep (jg false false) R Q m){s:Int}{t:Int}{steps:Int}{r:Bool}(h:fq N m s t steps=some r):CallP prog 40 #[Q,(vi s),(vi t),(vi steps)] R (fun v R'=>v=(.bool r)):=by
 refine qp (args:=[Q,(vi s),(vi t),(vi steps)]) func40 rfl rfl fun A=>?_;rw [fq] at h;refine zo (y5 (T:=(jg false false)) rfl rfl rfl aH fun v1 R3 Z h5 h2=>?_)
 refine zm (.bool false) (z8 (q9 (zo (zl (vi s) (zl (vi t) (zi (uu rfl rfl) (z8 (qa rfl h (fun h=>?_) (fun h=>?_)))))))));refine zo (zm (.bool true) (z8 (qw ?_)));obtain rfl:=Option.some.inj h;refine qh (D:=[]) (J:=[]) (rs:=[.tmp 8]) (vs:=[(.bool true)]) Z rfl rfl ⟨rfl,trivial⟩ ?_;exact⟨rfl,rfl⟩
 refine qc (zo (jq rfl dx vw rfl h2 fun v7 h8=>?_));refine j3 rfl z4r rfl h8 fun v9 aI=>?_;refine zi (qx rfl underlying25 rfl (je aI)) ?_;obtain⟨E,h⟩:=za h
 refine z2m (T:=ww) (m:=(↑m.rows.length:Int).toNat) (c:=(↑m.rows.length:Int).toNat) rfl underlying88 zo4 (zb rfl E.1) (zb rfl E.1) (Nat.le_refl _) (z3v E) (z3u E) fun a bl S aa=>?_;refine zm a (j4 (zl a (zl (vi s) ?_)));obtain⟨U,h⟩:=za h
 refine ku (i:=s.toNat) rfl z88 rfl aa (zb rfl U.1) (zn U) fun bm aJ=>?_;refine p8 (i:=s.toNat) (j:=0) ty4 aa rfl rfl aJ (zn U) rfl (yl.2 rfl) fun aK aL=>?_;refine z8 ?_;obtain⟨p,e,h⟩:=zu h
 refine jb (γ:=(List Bool)×Frag) (rs [10,14,24,62]) (fun g=>[]) (fun g=>[g.2]++A) (fun g R=>p=g.1∧ORep ww R g.2 a g.1∧capOf a=g.1.length∧True) ?_ ?_
 refine zo (zm (vi 0) (z8 (zz (ky (γ:=Nat×Int×(List Bool)×Frag) (rs [10,14,24,62]) (fun g=>[(10,(vi g.2.1))]) (fun g=>[g.2.2.2]++A) (fun g R=>bf N m steps g.1 g.2.1 g.2.2.1=some p∧ORep ww R g.2.2.2 a g.2.2.1∧capOf a=g.2.2.1.length∧True) (fun g=>g.1) (N,0,(up (mk (↑m.rows.length:Int) false) s true),aK) prm ⟨e,aL,((S.trans List.length_replicate.symm).trans List.length_set.symm),trivial⟩ ?_))))
 clear e;rintro⟨F,u,V,ab⟩ a1 bn n ⟨e,ac,L,_⟩;rcases F with _|F;exact j6 e;replace e:bf N m steps (F+1) u V=some p:=e;rw [bf] at e;refine q9 (zo (zl (vi u) (zl (vi steps) (zi (jk rfl rfl) (z8 (qa rfl e (fun e=>?_) (fun e=>?_)))))))
 refine qc ?_;obtain⟨w,f,e⟩:=zu e;refine jb (γ:=(List Bool)×Frag) (rs [11,14,29,62]) (fun g=>[]) (fun g=>[g.2]++A) (fun g R=>w=g.1∧ORep ww R g.2 a g.1∧capOf a=g.1.length∧True) ?_ ?_
 refine zz (zo (zm (vi 0) (z8 (zz (ky (γ:=Nat×Int×(List Bool)×Frag) (rs [11,14,29,62]) (fun g=>[(11,(vi g.2.1))]) (fun g=>[g.2.2.2]++A) (fun g R=>yx N m g.1 g.2.1 g.2.2.1=some w∧ORep ww R g.2.2.2 a g.2.2.1∧capOf a=g.2.2.1.length∧True) (fun g=>g.1) (N,0,V,ab) prm ⟨f,ac,L,trivial⟩ ?_)))))
 clear f;rintro⟨G,b,W,ad⟩ a2 bo o ⟨f,ae,M,_⟩;rcases G with _|G;exact j6 f;replace f:yx N m (G+1) b W=some w:=f;rw [yx] at f;refine q9 (zo (zl (vi b) (jq rfl dx vw rfl (h2.mono (n.trans o)) fun bp aM=>?_)))
 refine j3 rfl z4r rfl aM fun bq aN=>?_;refine zi (qx rfl underlying25 rfl (je aN)) (zi (jk rfl rfl) (z8 (qa rfl f (fun f=>?_) (fun f=>?_))));refine qc ?_;obtain⟨x,d,f⟩:=zu f
 refine jb (γ:=(List Bool)×Frag) (rs [12,14,36,62]) (fun g=>[]) (fun g=>[g.2]++A) (fun g R=>x=g.1∧ORep ww R g.2 a g.1∧capOf a=g.1.length∧True) ?_ ?_
 refine zz (zo (zm (vi 0) (z8 (zz (ky (γ:=Nat×Int×(List Bool)×Frag) (rs [12,14,36,62]) (fun g=>[(12,(vi g.2.1))]) (fun g=>[g.2.2.2]++A) (fun g R=>uz N m b g.1 g.2.1 g.2.2.1=some x∧ORep ww R g.2.2.2 a g.2.2.1∧capOf a=g.2.2.1.length∧True) (fun g=>g.1) (N,0,W,ad) prm ⟨d,ae,M,trivial⟩ ?_)))))
 clear d;rintro⟨H,k,I,af⟩ a3 br y ⟨d,q,z,_⟩;rcases H with _|H;exact j6 d;replace d:uz N m b (H+1) k I=some x:=d;rw [uz] at d
 refine q9 (zo (jd (v:=(vi k)) rfl (zg rfl) (zqp rfl (ak z3q z1s rfl (h2.mono ((n.trans o).trans y))) fun bs aO=>?_)))
 refine jd rfl (pg (u6 ty3 rfl aO)) (jd rfl (jk rfl rfl) (jd (v:=(.bool (decide (k<m.inputs)))) rfl (zg rfl) (j5 rfl rfl rfl rfl (fun K=>qi (v:=a) (zg rfl)) fun bt aP=>?_)));refine j5 rfl rfl rfl rfl (fun K=>qi (v:=(vi b)) (zg rfl)) fun bu aQ=>?_;obtain⟨X,d⟩:=za d
 refine j5 rfl rfl rfl rfl (fun K=>z1r (i:=b.toNat) z88 (aP.1 (zk rfl K)) q (zb (aQ.1 (zk rfl K)) (X (zk rfl K)).1) (zn (X (zk rfl K)))) fun bv aR=>?_;refine j5 rfl rfl rfl rfl (fun K=>qi (zh7 (zax (i:=b.toNat) (j:=0) ty4 q rfl rfl (aR.1 (zk rfl K)) (zn (X (zk rfl K)))))) fun bw aS=>?_
 refine jd rfl (uk rfl (fun hb=>(aS.1 (zk rfl hb))) rfl) (z8 (qa rfl d (fun d=>?_) (fun d=>?_)));refine qc ?_;obtain⟨Y,l,d⟩:=zu d;refine jb (γ:=(List Bool)×Frag) (rs [13,14,48,62]) (fun g=>[]) (fun g=>[g.2]++A) (fun g R=>Y=g.1∧ORep ww R g.2 a g.1∧capOf a=g.1.length∧True) ?_ ?_
 refine zz (zo (jq rfl dx vw rfl (h2.mono ((n.trans o).trans y)) fun bz aT=>?_));refine j3 rfl z4r rfl aT fun a4 ag=>?_;refine zl (vi b) ?_;obtain⟨O,l⟩:=za l;refine yj (i:=b.toNat) rfl zmy rfl (je ag) (zb rfl O.1) (zn O) fun a5 ah=>?_
 refine j3 rfl zk8 rfl ah fun a6 aj=>?_;refine zl (vi k) ?_;obtain⟨P,l⟩:=za l;refine yj (i:=k.toNat) rfl zmj rfl (je aj) (zb rfl P.1) (zn P) fun a7 al=>?_;refine jq rfl za6 zb4 rfl al fun a8 am=>?_;refine j3 rfl ty3 rfl am fun a9 an=>?_;obtain rfl:=qj.1 an
 refine zm (vi ((ix (ix m.rows b) k).to)) (j4 (zl (vi ((ix (ix m.rows b) k).to)) (zi (ai rfl rfl) (z8 (qa rfl l (fun l=>?_) (fun l=>?_))))));refine zt (zl a (zl (vi ((ix (ix m.rows b) k).to)) ?_));obtain⟨B,l⟩:=za l
 refine ku (i:=((ix (ix m.rows b) k).to).toNat) rfl z88 rfl q (zb rfl B.1) (zn B) fun ba ao=>?_;refine p8 (i:=((ix (ix m.rows b) k).to).toNat) (j:=0) ty4 q rfl rfl ao (zn B) rfl (yl.2 rfl) fun ap aq=>?_;refine z8 ?_
 exact⟨dkt,(RH.le.refl _),jr,((up I ((ix (ix m.rows b) k).to) true),ap),trivial,prm,(Option.some.inj l).symm,aq,(z.trans List.length_set.symm),trivial⟩;refine qc ?_;exact⟨dkt,(RH.le.refl _),jr,(I,af),trivial,prm,(Option.some.inj l).symm,q,z,trivial⟩;rintro⟨Y,aU⟩ bb bA ar ⟨rfl,aV,au,_⟩;refine zt (zl (vi k) ?_)
 obtain⟨av,d⟩:=za d;refine zi (ji rfl rfl av) (zm (vi (k+1)) (z8 ?_));exact⟨dkt,ar,jr,(H,k+1,Y,aU),Nat.lt_succ_self _,⟨rfl,trivial⟩,prm,d,aV,au,trivial⟩;refine jm ?_;exact⟨dkt,y,jr,(I,af),trivial,prm,(Option.some.inj d).symm,q,z,trivial⟩;rintro⟨x,aW⟩ bc bB aw ⟨rfl,aX,ax,_⟩
 refine zt (zl (vi b) ?_);obtain⟨ay,f⟩:=za f;refine zi (ji rfl rfl ay) (zm (vi (b+1)) (z8 ?_));exact⟨dkt,aw,jr,(G,b+1,x,aW),Nat.lt_succ_self _,⟨rfl,trivial⟩,prm,f,aX,ax,trivial⟩;refine jm ?_;exact⟨dkt,o,jr,(W,ad),trivial,prm,(Option.some.inj f).symm,ae,M,trivial⟩
 rintro⟨w,aY⟩ be bC az ⟨rfl,aZ,aA,_⟩;refine zt (zl (vi u) ?_);obtain⟨aB,e⟩:=za e;refine zi (ji rfl rfl aB) (zm (vi (u+1)) (z8 ?_));exact⟨dkt,az,jr,(F,u+1,w,aY),Nat.lt_succ_self _,⟨rfl,trivial⟩,prm,e,aZ,aA,trivial⟩;refine jm ?_
 exact⟨dkt,n,jr,(V,ab),trivial,prm,(Option.some.inj e).symm,ac,L,trivial⟩;rintro⟨p,a0⟩ bg bD aC ⟨rfl,aD,bh,_⟩;refine zo (zl a (zl (vi t) ?_));obtain⟨C,h⟩:=za h;refine ku (i:=t.toNat) rfl z88 rfl aD (zb rfl C.1) (zn C) fun bi aE=>?_
 refine lg (i:=t.toNat) (j:=0) rfl ty4 aD rfl rfl aE (zn C) fun bj aF=>?_;obtain rfl:=yl.1 aF;refine zm (.bool (ix p t)) (z8 (qw ?_));obtain rfl:=Option.some.inj h;refine qh (D:=[]) (J:=[a0]) (rs:=[.tmp 8]) (vs:=[(.bool (ix p t))]) (Z.trans aC) rfl rfl ⟨rfl,trivial⟩ ?_;exact⟨rfl,rfl⟩
theorem q2q:Enters prog 40:=enters_of func40 rfl (by kernel_rfl)
end GV
end Go.Proofs.Ytdhccodneoebpaa
