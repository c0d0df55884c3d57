import Derived.Test.YtdhccodneoebpaaShWe
import Derived.Test.YtdhccodneoebpaaShXa
import Derived.Test.YtdhccodneoebpaaShXb
import Derived.Test.YtdhccodneoebpaaShXd
import Derived.Test.YtdhccodneoebpaaRows
set_option linter.unusedVariables false
set_option linter.unusedSimpArgs false
set_option linter.unusedSectionVars false
namespace Go.Proofs.Ytdhccodneoebpaa
namespace GV
open _root_.Go.Proofs.Try
open Go.IntWalk
set_option maxRecDepth 100000
set_option maxHeartbeats 20000000
theorem zbu{N:Nat}{R:RH}{m:Mach}{o:Value}(u:VRep (jg false false) R o m){r:(List (List Int))}(H:z0r N m=some r):CallP prog 15 #[o] R (fun v R'=>VRep (tSl false (tSl false (zy .i64))) R' v r):=by
 refine qp (args:=[o]) func15 rfl rfl fun A=>?_;rw [z0r] at H;refine zo (y5 (T:=(jg false false)) rfl rfl rfl u fun v1 R3 w h5 h2=>?_);refine zm vs0 (j4 (zm vs0 (j4 (jq rfl dx vw rfl h2 fun v6 h7=>?_))));refine j3 rfl z4r rfl h7 fun v8 h9=>?_
 refine zi (qx rfl underlying25 rfl (je h9)) (zm (vi (↑m.rows.length:Int)) (z8 ?_));obtain⟨x,b,H⟩:=zu H;refine jb (γ:=(List (List Int))×Value×Frag) (rs [3,4,5,9,12,49]) (fun g=>[(3,g.2.1)]) (fun g=>[g.2.2]++A) (fun g R=>x=g.1∧ORep (tSl false (zy .i64)) R g.2.2 g.2.1 g.1∧True) ?_ ?_
 refine zo (zm (vi 0) (z8 (zz (z4z ?_))))
 refine ky (γ:=Nat×(List (List Int))×Int×Value×Frag) (rs [3,4,5,9,12,49]) (fun g=>[(3,g.2.2.2.1),(5,(vi g.2.2.1))]) (fun g=>[g.2.2.2.2]++A) (fun g R=>gz N m g.1 g.2.1 g.2.2.1=some x∧ORep (tSl false (zy .i64)) R g.2.2.2.2 g.2.2.2.1 g.2.1∧True) (fun g=>g.1) (N,[],0,vs0,emp) prm ⟨b,(z0y (T:=(tSl false (zy .i64)))),trivial⟩ ?_
 clear b;rintro⟨I,y,d,aa,z⟩ a9 bm e ⟨b,ab,_⟩;rcases I with _|I;exact j6 b;replace b:gz N m (I+1) y d=some x:=b;rw [gz] at b;refine q9 (zo (zl (vi d) (zl (vi (↑m.rows.length:Int)) (zi (jk rfl rfl) (z8 (qa rfl b (fun b=>?_) (fun b=>?_)))))))
 refine qc ?_;obtain⟨ac,n,b⟩:=zu b;refine jb (γ:=(List (List Int))×Value×Frag) (rs [3,4,6,9,17,49]) (fun g=>[(3,g.2.1)]) (fun g=>[g.2.2]++A) (fun g R=>ac=g.1∧ORep (tSl false (zy .i64)) R g.2.2 g.2.1 g.1∧True) ?_ ?_;refine zz (zo (zm (.bool true) (j4 (zm vs0 (z8 ?_)))));obtain⟨l,c,n⟩:=zu n
 refine jb (γ:=(Bool×List Int)×Value×Frag) (rs [6,9,17,44]) (fun g=>[(6,(.bool g.1.1)),(7,g.2.1)]) (fun g=>[z,g.2.2]++A) (fun g R=>l=g.1∧ORep (zy .i64) R g.2.2 g.2.1 g.1.2∧True) ?_ ?_;refine zo (zm (vi 0) (z8 (zz (z4z ?_))))
 refine ky (γ:=Nat×Bool×(List Int)×Int×Value×Frag) (rs [6,9,17,44]) (fun g=>[(6,(.bool g.2.1)),(7,g.2.2.2.2.1),(8,(vi g.2.2.2.1))]) (fun g=>[z,g.2.2.2.2.2]++A) (fun g R=>yn N m d g.1 g.2.1 g.2.2.1 g.2.2.2.1=some l∧ORep (zy .i64) R g.2.2.2.2.2 g.2.2.2.2.1 g.2.2.1∧True) (fun g=>g.1) (N,true,[],0,vs0,emp) ⟨[],(pk 1 rfl (pk 0 rfl (List.Perm.refl _)))⟩ ⟨c,(z0y (T:=(zy .i64))),trivial⟩ ?_
 clear c;rintro⟨K,p,C,a,ad,aj⟩ ba bn f ⟨c,ae,_⟩;rcases K with _|K;exact j6 c;replace c:yn N m d (K+1) p C a=some l:=c;rw [yn] at c
 refine q9 (zo (zl (vi a) (zl (vi (↑m.rows.length:Int)) (zi (jk rfl rfl) (z8 (qa rfl c (fun c=>?_) (fun c=>?_)))))));refine qc ?_;obtain⟨L,j,c⟩:=zu c
 refine jb (γ:=(Bool×List Int)×Value×Frag) (rs [6,8,22,44]) (fun g=>[(6,(.bool g.1.1)),(7,g.2.1)]) (fun g=>[z,g.2.2]++A) (fun g R=>L=g.1∧ORep (zy .i64) R g.2.2 g.2.1 g.1.2∧True) ?_ ?_
 refine zz (zo (jd (v:=o) rfl (ko z1i rfl rfl (h5.mono (e.trans f)) (u.mono ((w.trans e).trans f))) (jd (v:=(vi d)) rfl (zg rfl) (jd (v:=(vi a)) rfl (zg rfl) (jd (v:=(vi (↑m.rows.length:Int))) rfl (zg rfl) ?_)))));obtain⟨ag,aL,j⟩:=zu j
 refine lm (φ:=phX (.bool ag)) rfl (yh (vs:=[o,(vi d),(vi a),(vi (↑m.rows.length:Int))]) q2q rfl (z6n (u.mono ((w.trans e).trans f)) aL) (fun _ _ h=>h)) fun bo bp k aM=>?_;obtain rfl:=Eq.symm aM
 refine jd (v:=(.bool ag)) rfl (zg rfl) (j5 rfl rfl rfl rfl (fun q=>qi (v:=o) (ko z1i rfl rfl (h5.mono ((e.trans f).trans k)) (u.mono (((w.trans e).trans f).trans k)))) fun bq aN=>?_);refine j5 rfl rfl rfl rfl (fun q=>qi (v:=(vi a)) (zg rfl)) fun br aO=>?_
 refine j5 rfl rfl rfl rfl (fun q=>qi (v:=(vi d)) (zg rfl)) fun bs aP=>?_;refine j5 rfl rfl rfl rfl (fun q=>qi (v:=(vi (↑m.rows.length:Int))) (zg rfl)) fun bt aQ=>?_;obtain⟨aR,aS,j⟩:=zu j
 refine af rfl rfl rfl rfl (fun q=>yh (vs:=[o,(vi a),(vi d),(vi (↑m.rows.length:Int))]) q2q (z02 (aN.1 (zk rfl q)) (z02 (aO.1 (zk rfl q)) (z02 (aP.1 (zk rfl q)) (z02 (aQ.1 (zk rfl q)) rfl)))) ((by have aT:=(rf aS (zk rfl q));exact z6n (u.mono (((w.trans e).trans f).trans k)) aT)) (fun _ _ h=>h)) fun aU aV s ah=>?_
 replace ah:phG (true&&(ag==true)) (phX (.bool (aR.getD default))) aU aV:=ah;refine jd rfl (uk rfl (fun hb=>(ah.1 (zk rfl hb))) rfl) (z8 (qa rfl j (fun j=>?_) (fun j=>?_)))
 refine zo (jd (v:=(.bool p)) rfl (zg rfl) (jd (v:=(.bool p)) rfl (zg rfl) (j5 rfl rfl rfl rfl (fun q=>qi (v:=(vi a)) (zg rfl)) fun bu aX=>?_)));refine j5 rfl rfl rfl rfl (fun q=>qi (v:=(vi d)) (zg rfl)) fun bw aY=>?_
 refine j5 rfl rfl rfl rfl (fun q=>qi (z7f (aX.1 (zk rfl q)) (aY.1 (zk rfl q)))) fun bb ak=>?_
 refine jd rfl (uk rfl (fun hb=>(ak.1 (zk rfl hb))) rfl) (zm (.bool (p&&(decide (d≤a)))) (z8 (zt (zl ad (zl (vi a) (bv (T:=(zy .i64)) (X:=([a]:List Int)) (ps:=[(0,(vi a))]) (css:=[[(vi a)]]) rfl underlying36 zo3 rfl rfl (jv ⟨rfl,trivial⟩) rfl rfl (by decide) fun al bc M am=>?_))))))
 refine u7 (i:=0) rfl am fun an E ao=>?_;have ap:VRep (tSl true (zy .i64)) an al ([a]:List Int):=(z0d ao M);obtain⟨S,j⟩:=za j
 refine gq (i:=1) (X:=C) (Y:=([a]:List Int)) rfl underlying36 zo3 rfl rfl rfl (ae.mono ((k.trans s).trans E)) (je (Sub.v (B:=(tSl false (zy .i64))) (uh Sub.refl (fun _=>rfl)) ap)) S.1 S.2 fun U aq ar=>?_;refine zm U (z8 ?_)
 exact⟨dkt,((k.trans s).trans E),jr,((p&&(decide (d≤a)),(C++([a]:List Int))),U,aq),⟨rfl,rfl,trivial⟩,prm,(Option.some.inj j).symm,ar,trivial⟩;refine qc ?_;exact⟨dkt,(k.trans s),jr,((p,C),ad,aj),⟨rfl,rfl,trivial⟩,prm,(Option.some.inj j).symm,(ae.mono (k.trans s)),trivial⟩
 rintro⟨L,aZ,a0⟩ be bx au ⟨rfl,a1,_⟩;refine zt (zl (vi a) ?_);obtain⟨av,c⟩:=za c;refine zi (ji rfl rfl av) (zm (vi (a+1)) (z8 ?_));exact⟨dkt,au,jr,(K,L.1,L.2,a+1,aZ,a0),Nat.lt_succ_self _,⟨rfl,rfl,rfl,trivial⟩,prm,c,a1,trivial⟩;refine jm ?_
 exact⟨dkt,f,jr,((p,C),ad,aj),⟨rfl,rfl,trivial⟩,prm,(Option.some.inj c).symm,ae,trivial⟩;rintro⟨l,O,a2⟩ bf bz t ⟨rfl,a3,_⟩;refine zo (zl (.bool l.1) (z8 (qa rfl n (fun n=>?_) (fun n=>?_))));refine zt (zl aa (zl O (u7 (i:=1) rfl a3 fun aw F ax=>?_)))
 have V:VRep (tSl false (zy .i64)) aw O l.2:=(z6h ax);refine bv (T:=(tSl false (zy .i64))) (X:=([l.2]:List (List Int))) (ps:=[(0,O)]) (css:=[[O]]) rfl underlying30 zr4 rfl (by simp only [List.map_cons,List.map_nil,z0s V];rfl) (jv ⟨(kw rfl V),trivial⟩) rfl rfl (by decide) fun ay bg P az=>?_
 refine u7 (i:=0) rfl az fun aA G aB=>?_;have aC:VRep (tSl true (tSl false (zy .i64))) aA ay ([l.2]:List (List Int)):=(z0d aB P);obtain⟨W,n⟩:=za n
 refine gq (i:=0) (X:=y) (Y:=([l.2]:List (List Int))) rfl underlying30 zr4 rfl rfl rfl (ab.mono ((t.trans F).trans G)) (je (Sub.v (B:=(tSl false (tSl false (zy .i64)))) (uh Sub.refl (fun _=>rfl)) aC)) W.1 W.2 fun Z aD aE=>?_;refine zm Z (z8 ?_)
 exact⟨dkt,((t.trans F).trans G),jr,((y++([l.2]:List (List Int))),Z,aD),⟨rfl,trivial⟩,prm,(Option.some.inj n).symm,aE,trivial⟩;refine qc ?_;exact⟨dkt,t,jr,(y,aa,z),⟨rfl,trivial⟩,⟨[a2],(pk 1 rfl (pk 0 rfl (List.Perm.refl _)))⟩,(Option.some.inj n).symm,(ab.mono t),trivial⟩;rintro⟨ac,a4,a5⟩ bh bA aF ⟨rfl,a6,_⟩
 refine zt (zl (vi d) ?_);obtain⟨aG,b⟩:=za b;refine zi (ji rfl rfl aG) (zm (vi (d+1)) (z8 ?_));exact⟨dkt,aF,jr,(I,ac,d+1,a4,a5),Nat.lt_succ_self _,⟨rfl,rfl,trivial⟩,prm,b,a6,trivial⟩;refine jm ?_;exact⟨dkt,e,jr,(y,aa,z),⟨rfl,trivial⟩,prm,(Option.some.inj b).symm,ab,trivial⟩
 rintro⟨x,Q,bB⟩ bi bC aH ⟨rfl,a7,_⟩;refine zo (zl Q (zm Q (z8 (tq (i:=0) rfl a7 fun aI ai aJ=>?_))));have aK:VRep (tSl false (tSl false (zy .i64))) aI Q x:=(z6h aJ);refine qw ?_;obtain rfl:=Option.some.inj H
 refine qh (D:=[]) (J:=[]) (rs:=[.tmp 2]) (vs:=[Q]) ((w.trans aH).trans ai) rfl rfl ⟨rfl,trivial⟩ ?_;exact⟨rfl,aK⟩
theorem q59:Enters prog 15:=enters_of func15 rfl (by kernel_rfl)
end GV
end Go.Proofs.Ytdhccodneoebpaa
