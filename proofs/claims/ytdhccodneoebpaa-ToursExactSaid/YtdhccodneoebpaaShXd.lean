import Derived.Test.YtdhccodneoebpaaShWe
import Derived.Test.YtdhccodneoebpaaRows
set_option linter.unusedVariables false
set_option linter.unusedSimpArgs false
set_option linter.unusedSectionVars false
namespace Go.Proofs.Ytdhccodneoebpaa
namespace GV
open _root_.Go.Proofs.Try
open Go.IntWalk
set_option maxRecDepth 100000
set_option maxHeartbeats 20000000
theorem z6d{N:Nat}{R:RH}{m:Mach}{Q:Value}(aF:VRep (jf false false) R Q m){s:Int}{t:Int}{steps:Int}{r:Bool}(h:r9 N m s t steps=some r):CallP prog 40 #[Q,(vi s),(vi t),(vi steps)] R (fun v R'=>v=(.bool r)):=by
 refine qo (args:=[Q,(vi s),(vi t),(vi steps)]) func40 rfl rfl fun A=>?_;rw [r9] at h;refine zt (vo (T:=(jf false false)) rfl rfl rfl aF fun v1 R3 Z h5 h2=>?_)
 refine zn (.bool false) (z8 (zy (zt (zl (vi s) (zl (vi t) (zi (xe rfl rfl) (z8 (qa rfl h (fun h=>?_) (fun h=>?_)))))))));refine zt (zn (.bool true) (z8 (qw ?_)));obtain rfl:=Option.some.inj h;refine qg (D:=[]) (J:=[]) (rs:=[.tmp 8]) (vs:=[(.bool true)]) Z rfl rfl ⟨rfl,trivial⟩ ?_;exact⟨rfl,rfl⟩
 refine qc (zt (ku rfl pg vv rfl h2 fun v7 h8=>?_));refine j4 rfl z3k rfl h8 fun v9 aG=>?_;refine zi (qz rfl underlying25 rfl (jd aG)) ?_;obtain⟨E,h⟩:=ze h
 refine z1r (T:=x9) (m:=(↑m.rows.length:Int).toNat) (c:=(↑m.rows.length:Int).toNat) rfl underlying88 zo4 (zb rfl E.1) (zb rfl E.1) (Nat.le_refl _) (z2w E) (z2v E) fun a bj S aa=>?_;refine zn a (j5 (zl a (zl (vi s) ?_)));obtain⟨U,h⟩:=ze h
 refine kg (i:=s.toNat) rfl z7k rfl aa (zb rfl U.1) (zm U) fun bk aH=>?_;refine gm (i:=s.toNat) (j:=0) ty4 aa rfl rfl aH (zm U) rfl (yl.2 rfl) fun aI aJ=>?_;refine z8 ?_;obtain⟨p,e,h⟩:=zu h
 refine jb (γ:=(List Bool)×Frag) (rs [10,14,24,62]) (fun g=>[]) (fun g=>[g.2]++A) (fun g R=>p=g.1∧ORep x9 R g.2 a g.1∧capOf a=g.1.length∧True) ?_ ?_
 refine zt (zn (vi 0) (z8 (q9 (kv (γ:=Nat×Int×(List Bool)×Frag) (rs [10,14,24,62]) (fun g=>[(10,(vi g.2.1))]) (fun g=>[g.2.2.2]++A) (fun g R=>bg N m steps g.1 g.2.1 g.2.2.1=some p∧ORep x9 R g.2.2.2 a g.2.2.1∧capOf a=g.2.2.1.length∧True) (fun g=>g.1) (N,0,(up (mk (↑m.rows.length:Int) false) s true),aI) prm ⟨e,aJ,((S.trans List.length_replicate.symm).trans List.length_set.symm),trivial⟩ ?_))))
 clear e;rintro⟨F,u,V,ab⟩ aZ bl n ⟨e,ac,L,_⟩;rcases F with _|F;exact qy e;replace e:bg N m steps (F+1) u V=some p:=e;rw [bg] at e;refine zy (zt (zl (vi u) (zl (vi steps) (zi (jh rfl rfl) (z8 (qa rfl e (fun e=>?_) (fun e=>?_)))))))
 refine qc ?_;obtain⟨w,f,e⟩:=zu e;refine jb (γ:=(List Bool)×Frag) (rs [11,14,29,62]) (fun g=>[]) (fun g=>[g.2]++A) (fun g R=>w=g.1∧ORep x9 R g.2 a g.1∧capOf a=g.1.length∧True) ?_ ?_
 refine q9 (zt (zn (vi 0) (z8 (q9 (kv (γ:=Nat×Int×(List Bool)×Frag) (rs [11,14,29,62]) (fun g=>[(11,(vi g.2.1))]) (fun g=>[g.2.2.2]++A) (fun g R=>yx N m g.1 g.2.1 g.2.2.1=some w∧ORep x9 R g.2.2.2 a g.2.2.1∧capOf a=g.2.2.1.length∧True) (fun g=>g.1) (N,0,V,ab) prm ⟨f,ac,L,trivial⟩ ?_)))))
 clear f;rintro⟨G,b,W,ad⟩ a0 bm o ⟨f,ae,M,_⟩;rcases G with _|G;exact qy f;replace f:yx N m (G+1) b W=some w:=f;rw [yx] at f;refine zy (zt (zl (vi b) (ku rfl pg vv rfl (h2.mono (n.trans o)) fun bn aK=>?_)))
 refine j4 rfl z3k rfl aK fun bo aL=>?_;refine zi (qz rfl underlying25 rfl (jd aL)) (zi (jh rfl rfl) (z8 (qa rfl f (fun f=>?_) (fun f=>?_))));refine qc ?_;obtain⟨x,d,f⟩:=zu f
 refine jb (γ:=(List Bool)×Frag) (rs [12,14,36,62]) (fun g=>[]) (fun g=>[g.2]++A) (fun g R=>x=g.1∧ORep x9 R g.2 a g.1∧capOf a=g.1.length∧True) ?_ ?_
 refine q9 (zt (zn (vi 0) (z8 (q9 (kv (γ:=Nat×Int×(List Bool)×Frag) (rs [12,14,36,62]) (fun g=>[(12,(vi g.2.1))]) (fun g=>[g.2.2.2]++A) (fun g R=>uz N m b g.1 g.2.1 g.2.2.1=some x∧ORep x9 R g.2.2.2 a g.2.2.1∧capOf a=g.2.2.1.length∧True) (fun g=>g.1) (N,0,W,ad) prm ⟨d,ae,M,trivial⟩ ?_)))))
 clear d;rintro⟨H,k,I,af⟩ a1 bp y ⟨d,q,z,_⟩;rcases H with _|H;exact qy d;replace d:uz N m b (H+1) k I=some x:=d;rw [uz] at d
 refine zy (zt (ji (v:=(vi k)) rfl (zf rfl) (zsy rfl (oo z3l z1d rfl (h2.mono ((n.trans o).trans y))) fun bq aM=>?_)))
 refine ji rfl (xg (kz ty3 rfl aM)) (ji rfl (jh rfl rfl) (ji (v:=(.bool (decide (k<m.inputs)))) rfl (zf rfl) (j6 rfl rfl rfl rfl (fun K=>qi (v:=a) (zf rfl)) fun br aN=>?_)));refine j6 rfl rfl rfl rfl (fun K=>qi (v:=(vi b)) (zf rfl)) fun bs aO=>?_;obtain⟨X,d⟩:=ze d
 refine j6 rfl rfl rfl rfl (fun K=>lg (i:=b.toNat) z7k (aN.1 (zk rfl K)) q (zb (aO.1 (zk rfl K)) (X (zk rfl K)).1) (zm (X (zk rfl K)))) fun bt aP=>?_;refine j6 rfl rfl rfl rfl (fun K=>qi (zll (z7h (i:=b.toNat) (j:=0) ty4 q rfl rfl (aP.1 (zk rfl K)) (zm (X (zk rfl K)))))) fun bu aQ=>?_
 refine ji rfl (y5 rfl (fun hb=>(aQ.1 (zk rfl hb))) rfl) (z8 (qa rfl d (fun d=>?_) (fun d=>?_)));refine qc ?_;obtain⟨Y,l,d⟩:=zu d;refine jb (γ:=(List Bool)×Frag) (rs [13,14,48,62]) (fun g=>[]) (fun g=>[g.2]++A) (fun g R=>Y=g.1∧ORep x9 R g.2 a g.1∧capOf a=g.1.length∧True) ?_ ?_
 refine q9 (zt (ku rfl pg vv rfl (h2.mono ((n.trans o).trans y)) fun bw aR=>?_));refine j4 rfl z3k rfl aR fun a2 ag=>?_;refine zl (vi b) ?_;obtain⟨O,l⟩:=ze l;refine yj (i:=b.toNat) rfl zic rfl (jd ag) (zb rfl O.1) (zm O) fun a3 ah=>?_
 refine j4 rfl zgo rfl ah fun a4 ai=>?_;refine zl (vi k) ?_;obtain⟨P,l⟩:=ze l;refine yj (i:=k.toNat) rfl zj7 rfl (jd ai) (zb rfl P.1) (zm P) fun a5 aj=>?_;refine ku rfl z7j z7b rfl aj fun a6 ak=>?_;refine j4 rfl ty3 rfl ak fun a7 al=>?_;obtain rfl:=qh.1 al
 refine zn (vi ((ix (ix m.rows b) k).to)) (j5 (zl (vi ((ix (ix m.rows b) k).to)) (zi (tu rfl rfl) (z8 (qa rfl l (fun l=>?_) (fun l=>?_))))));refine zq (zl a (zl (vi ((ix (ix m.rows b) k).to)) ?_));obtain⟨B,l⟩:=ze l
 refine kg (i:=((ix (ix m.rows b) k).to).toNat) rfl z7k rfl q (zb rfl B.1) (zm B) fun a8 am=>?_;refine gm (i:=((ix (ix m.rows b) k).to).toNat) (j:=0) ty4 q rfl rfl am (zm B) rfl (yl.2 rfl) fun an ao=>?_;refine z8 ?_
 exact⟨dkt,(RH.le.refl _),jm,((up I ((ix (ix m.rows b) k).to) true),an),trivial,prm,(Option.some.inj l).symm,ao,(z.trans List.length_set.symm),trivial⟩;refine qc ?_;exact⟨dkt,(RH.le.refl _),jm,(I,af),trivial,prm,(Option.some.inj l).symm,q,z,trivial⟩;rintro⟨Y,aS⟩ a9 bx ap ⟨rfl,aT,aq,_⟩;refine zq (zl (vi k) ?_)
 obtain⟨ar,d⟩:=ze d;refine zi (jg rfl rfl ar) (zn (vi (k+1)) (z8 ?_));exact⟨dkt,ap,jm,(H,k+1,Y,aS),Nat.lt_succ_self _,⟨rfl,trivial⟩,prm,d,aT,aq,trivial⟩;refine jk ?_;exact⟨dkt,y,jm,(I,af),trivial,prm,(Option.some.inj d).symm,q,z,trivial⟩;rintro⟨x,aU⟩ ba bz au ⟨rfl,aV,av,_⟩
 refine zq (zl (vi b) ?_);obtain⟨aw,f⟩:=ze f;refine zi (jg rfl rfl aw) (zn (vi (b+1)) (z8 ?_));exact⟨dkt,au,jm,(G,b+1,x,aU),Nat.lt_succ_self _,⟨rfl,trivial⟩,prm,f,aV,av,trivial⟩;refine jk ?_;exact⟨dkt,o,jm,(W,ad),trivial,prm,(Option.some.inj f).symm,ae,M,trivial⟩
 rintro⟨w,aW⟩ bb bA ax ⟨rfl,aX,ay,_⟩;refine zq (zl (vi u) ?_);obtain⟨az,e⟩:=ze e;refine zi (jg rfl rfl az) (zn (vi (u+1)) (z8 ?_));exact⟨dkt,ax,jm,(F,u+1,w,aW),Nat.lt_succ_self _,⟨rfl,trivial⟩,prm,e,aX,ay,trivial⟩;refine jk ?_
 exact⟨dkt,n,jm,(V,ab),trivial,prm,(Option.some.inj e).symm,ac,L,trivial⟩;rintro⟨p,aY⟩ bc bB aA ⟨rfl,aB,be,_⟩;refine zt (zl a (zl (vi t) ?_));obtain⟨C,h⟩:=ze h;refine kg (i:=t.toNat) rfl z7k rfl aB (zb rfl C.1) (zm C) fun bf aC=>?_
 refine ig (i:=t.toNat) (j:=0) rfl ty4 aB rfl rfl aC (zm C) fun bh aD=>?_;obtain rfl:=yl.1 aD;refine zn (.bool (ix p t)) (z8 (qw ?_));obtain rfl:=Option.some.inj h;refine qg (D:=[]) (J:=[aY]) (rs:=[.tmp 8]) (vs:=[(.bool (ix p t))]) (Z.trans aA) rfl rfl ⟨rfl,trivial⟩ ?_;exact⟨rfl,rfl⟩
theorem q10:Enters prog 40:=enters_of func40 rfl (by kernel_rfl)
end GV
end Go.Proofs.Ytdhccodneoebpaa
