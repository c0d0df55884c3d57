import Derived.Test.YtdhccodneoebpaaShWe
import Derived.Test.YtdhccodneoebpaaShXa
import Derived.Test.YtdhccodneoebpaaShXb
import Derived.Test.YtdhccodneoebpaaShXd
import Derived.Test.YtdhccodneoebpaaRows
set_option linter.unusedVariables false
set_option linter.unusedSimpArgs false
set_option linter.unusedSectionVars false
namespace Go.Proofs.Ytdhccodneoebpaa
namespace GV
open _root_.Go.Proofs.Try
open Go.IntWalk
set_option maxRecDepth 100000
set_option maxHeartbeats 20000000
theorem zaf{N:Nat}{R:RH}{m:Mach}{o:Value}(u:VRep (jl false false) R o m){r:(List (List Int))}(H:z0c N m=some r):CallP prog 15 #[o] R (fun v R'=>VRep (tSl false (tSl false (q9 .i64))) R' v r):=by
 refine qo (args:=[o]) func15 rfl rfl fun A=>?_;rw [z0c] at H;refine zl (uz (T:=(jl false false)) rfl rfl rfl u fun v1 R3 w h5 h2=>?_);refine zk vs0 (j4 (zk vs0 (j4 (jg rfl vz ug rfl h2 fun v6 h7=>?_))));refine qp rfl z11 rfl h7 fun v8 h9=>?_
 refine zi (qm rfl underlying25 rfl (jc h9)) (zk (vi (↑m.rows.length:Int)) (z8 ?_));obtain⟨x,b,H⟩:=zn H;refine j6 (γ:=(List (List Int))×Value×Frag) (rs [3,4,5,9,12,49]) (fun g=>[(3,g.2.1)]) (fun g=>[g.2.2]++A) (fun g R=>x=g.1∧ORep (tSl false (q9 .i64)) R g.2.2 g.2.1 g.1∧True) ?_ ?_
 refine zl (zk (vi 0) (z8 (zy (z4n ?_))))
 refine kg (γ:=Nat×(List (List Int))×Int×Value×Frag) (rs [3,4,5,9,12,49]) (fun g=>[(3,g.2.2.2.1),(5,(vi g.2.2.1))]) (fun g=>[g.2.2.2.2]++A) (fun g R=>gu N m g.1 g.2.1 g.2.2.1=some x∧ORep (tSl false (q9 .i64)) R g.2.2.2.2 g.2.2.2.1 g.2.1∧True) (fun g=>g.1) (N,[],0,vs0,emp) prm ⟨b,(z0v (T:=(tSl false (q9 .i64)))),trivial⟩ ?_
 clear b;rintro⟨I,y,d,aa,z⟩ a9 bm e ⟨b,ab,_⟩;rcases I with _|I;exact qy b;replace b:gu N m (I+1) y d=some x:=b;rw [gu] at b;refine zx (zl (zm (vi d) (zm (vi (↑m.rows.length:Int)) (zi (jd rfl rfl) (z8 (zw rfl b (fun b=>?_) (fun b=>?_)))))))
 refine qc ?_;obtain⟨ac,n,b⟩:=zn b;refine j6 (γ:=(List (List Int))×Value×Frag) (rs [3,4,6,9,17,49]) (fun g=>[(3,g.2.1)]) (fun g=>[g.2.2]++A) (fun g R=>ac=g.1∧ORep (tSl false (q9 .i64)) R g.2.2 g.2.1 g.1∧True) ?_ ?_;refine zy (zl (zk (.bool true) (j4 (zk vs0 (z8 ?_)))));obtain⟨l,c,n⟩:=zn n
 refine j6 (γ:=(Bool×List Int)×Value×Frag) (rs [6,9,17,44]) (fun g=>[(6,(.bool g.1.1)),(7,g.2.1)]) (fun g=>[z,g.2.2]++A) (fun g R=>l=g.1∧ORep (q9 .i64) R g.2.2 g.2.1 g.1.2∧True) ?_ ?_;refine zl (zk (vi 0) (z8 (zy (z4n ?_))))
 refine kg (γ:=Nat×Bool×(List Int)×Int×Value×Frag) (rs [6,9,17,44]) (fun g=>[(6,(.bool g.2.1)),(7,g.2.2.2.2.1),(8,(vi g.2.2.2.1))]) (fun g=>[z,g.2.2.2.2.2]++A) (fun g R=>yn N m d g.1 g.2.1 g.2.2.1 g.2.2.2.1=some l∧ORep (q9 .i64) R g.2.2.2.2.2 g.2.2.2.2.1 g.2.2.1∧True) (fun g=>g.1) (N,true,[],0,vs0,emp) ⟨[],(pk 1 rfl (pk 0 rfl (List.Perm.refl _)))⟩ ⟨c,(z0v (T:=(q9 .i64))),trivial⟩ ?_
 clear c;rintro⟨K,p,C,a,ad,ai⟩ ba bn f ⟨c,ae,_⟩;rcases K with _|K;exact qy c;replace c:yn N m d (K+1) p C a=some l:=c;rw [yn] at c
 refine zx (zl (zm (vi a) (zm (vi (↑m.rows.length:Int)) (zi (jd rfl rfl) (z8 (zw rfl c (fun c=>?_) (fun c=>?_)))))));refine qc ?_;obtain⟨L,j,c⟩:=zn c
 refine j6 (γ:=(Bool×List Int)×Value×Frag) (rs [6,8,22,44]) (fun g=>[(6,(.bool g.1.1)),(7,g.2.1)]) (fun g=>[z,g.2.2]++A) (fun g R=>L=g.1∧ORep (q9 .i64) R g.2.2 g.2.1 g.1.2∧True) ?_ ?_
 refine zy (zl (j5 (v:=o) rfl (ji au rfl rfl (h5.mono (e.trans f)) (u.mono ((w.trans e).trans f))) (j5 (v:=(vi d)) rfl (za rfl) (j5 (v:=(vi a)) rfl (za rfl) (j5 (v:=(vi (↑m.rows.length:Int))) rfl (za rfl) ?_)))));obtain⟨af,aL,j⟩:=zn j
 refine r9 (φ:=phX (.bool af)) rfl (yh (vs:=[o,(vi d),(vi a),(vi (↑m.rows.length:Int))]) zvo rfl (z2w (u.mono ((w.trans e).trans f)) aL) (fun _ _ h=>h)) fun bo bp k aM=>?_;obtain rfl:=Eq.symm aM
 refine j5 (v:=(.bool af)) rfl (za rfl) (qi rfl rfl rfl rfl (fun q=>qf (v:=o) (ji au rfl rfl (h5.mono ((e.trans f).trans k)) (u.mono (((w.trans e).trans f).trans k)))) fun bq aN=>?_);refine qi rfl rfl rfl rfl (fun q=>qf (v:=(vi a)) (za rfl)) fun br aO=>?_
 refine qi rfl rfl rfl rfl (fun q=>qf (v:=(vi d)) (za rfl)) fun bs aP=>?_;refine qi rfl rfl rfl rfl (fun q=>qf (v:=(vi (↑m.rows.length:Int))) (za rfl)) fun bt aQ=>?_;obtain⟨aR,aS,j⟩:=zn j
 refine nk rfl rfl rfl rfl (fun q=>yh (vs:=[o,(vi a),(vi d),(vi (↑m.rows.length:Int))]) zvo (fu (aN.1 (zh rfl q)) (fu (aO.1 (zh rfl q)) (fu (aP.1 (zh rfl q)) (fu (aQ.1 (zh rfl q)) rfl)))) ((by have aT:=(mi aS (zh rfl q));exact z2w (u.mono (((w.trans e).trans f).trans k)) aT)) (fun _ _ h=>h)) fun aU aV s ag=>?_
 replace ag:phG (true&&(af==true)) (phX (.bool (aR.getD default))) aU aV:=ag;refine j5 rfl (u6 rfl (fun hb=>(ag.1 (zh rfl hb))) rfl) (z8 (zw rfl j (fun j=>?_) (fun j=>?_)))
 refine zl (j5 (v:=(.bool p)) rfl (za rfl) (j5 (v:=(.bool p)) rfl (za rfl) (qi rfl rfl rfl rfl (fun q=>qf (v:=(vi a)) (za rfl)) fun bu aX=>?_)));refine qi rfl rfl rfl rfl (fun q=>qf (v:=(vi d)) (za rfl)) fun bw aY=>?_
 refine qi rfl rfl rfl rfl (fun q=>qf (z2z (aX.1 (zh rfl q)) (aY.1 (zh rfl q)))) fun bb aj=>?_
 refine j5 rfl (u6 rfl (fun hb=>(aj.1 (zh rfl hb))) rfl) (zk (.bool (p&&(decide (d≤a)))) (z8 (zq (zm ad (zm (vi a) (p8 (T:=(q9 .i64)) (X:=([a]:List Int)) (ps:=[(0,(vi a))]) (css:=[[(vi a)]]) rfl underlying36 zo3 rfl rfl (kv ⟨rfl,trivial⟩) rfl rfl (by decide) fun ak bc M al=>?_))))))
 refine uk (i:=0) rfl al fun am E an=>?_;have ao:VRep (tSl true (q9 .i64)) am ak ([a]:List Int):=(z01 an M);obtain⟨S,j⟩:=zb j
 refine bv (i:=1) (X:=C) (Y:=([a]:List Int)) rfl underlying36 zo3 rfl rfl rfl (ae.mono ((k.trans s).trans E)) (jc (Sub.v (B:=(tSl false (q9 .i64))) (kz Sub.refl (fun _=>rfl)) ao)) S.1 S.2 fun U ap aq=>?_;refine zk U (z8 ?_)
 exact⟨dkt,((k.trans s).trans E),jr,((p&&(decide (d≤a)),(C++([a]:List Int))),U,ap),⟨rfl,rfl,trivial⟩,prm,(Option.some.inj j).symm,aq,trivial⟩;refine qc ?_;exact⟨dkt,(k.trans s),jr,((p,C),ad,ai),⟨rfl,rfl,trivial⟩,prm,(Option.some.inj j).symm,(ae.mono (k.trans s)),trivial⟩
 rintro⟨L,aZ,a0⟩ be bx ar ⟨rfl,a1,_⟩;refine zq (zm (vi a) ?_);obtain⟨av,c⟩:=zb c;refine zi (je rfl rfl av) (zk (vi (a+1)) (z8 ?_));exact⟨dkt,ar,jr,(K,L.1,L.2,a+1,aZ,a0),Nat.lt_succ_self _,⟨rfl,rfl,rfl,trivial⟩,prm,c,a1,trivial⟩;refine jq ?_
 exact⟨dkt,f,jr,((p,C),ad,ai),⟨rfl,rfl,trivial⟩,prm,(Option.some.inj c).symm,ae,trivial⟩;rintro⟨l,O,a2⟩ bf bz t ⟨rfl,a3,_⟩;refine zl (zm (.bool l.1) (z8 (zw rfl n (fun n=>?_) (fun n=>?_))));refine zq (zm aa (zm O (uk (i:=1) rfl a3 fun aw F ax=>?_)))
 have V:VRep (tSl false (q9 .i64)) aw O l.2:=(z6a ax);refine p8 (T:=(tSl false (q9 .i64))) (X:=([l.2]:List (List Int))) (ps:=[(0,O)]) (css:=[[O]]) rfl underlying30 zm7 rfl (by simp only [List.map_cons,List.map_nil,lv V];rfl) (kv ⟨(u7 rfl V),trivial⟩) rfl rfl (by decide) fun ay bg P az=>?_
 refine uk (i:=0) rfl az fun aA G aB=>?_;have aC:VRep (tSl true (tSl false (q9 .i64))) aA ay ([l.2]:List (List Int)):=(z01 aB P);obtain⟨W,n⟩:=zb n
 refine bv (i:=0) (X:=y) (Y:=([l.2]:List (List Int))) rfl underlying30 zm7 rfl rfl rfl (ab.mono ((t.trans F).trans G)) (jc (Sub.v (B:=(tSl false (tSl false (q9 .i64)))) (kz Sub.refl (fun _=>rfl)) aC)) W.1 W.2 fun Z aD aE=>?_;refine zk Z (z8 ?_)
 exact⟨dkt,((t.trans F).trans G),jr,((y++([l.2]:List (List Int))),Z,aD),⟨rfl,trivial⟩,prm,(Option.some.inj n).symm,aE,trivial⟩;refine qc ?_;exact⟨dkt,t,jr,(y,aa,z),⟨rfl,trivial⟩,⟨[a2],(pk 1 rfl (pk 0 rfl (List.Perm.refl _)))⟩,(Option.some.inj n).symm,(ab.mono t),trivial⟩;rintro⟨ac,a4,a5⟩ bh bA aF ⟨rfl,a6,_⟩
 refine zq (zm (vi d) ?_);obtain⟨aG,b⟩:=zb b;refine zi (je rfl rfl aG) (zk (vi (d+1)) (z8 ?_));exact⟨dkt,aF,jr,(I,ac,d+1,a4,a5),Nat.lt_succ_self _,⟨rfl,rfl,trivial⟩,prm,b,a6,trivial⟩;refine jq ?_;exact⟨dkt,e,jr,(y,aa,z),⟨rfl,trivial⟩,prm,(Option.some.inj b).symm,ab,trivial⟩
 rintro⟨x,Q,bB⟩ bi bC aH ⟨rfl,a7,_⟩;refine zl (zm Q (zk Q (z8 (nz (i:=0) rfl a7 fun aI ah aJ=>?_))));have aK:VRep (tSl false (tSl false (q9 .i64))) aI Q x:=(z6a aJ);refine ql ?_;obtain rfl:=Option.some.inj H
 refine qd (D:=[]) (J:=[]) (rs:=[.tmp 2]) (vs:=[Q]) ((w.trans aH).trans ah) rfl rfl ⟨rfl,trivial⟩ ?_;exact⟨rfl,aK⟩
theorem zy0:Enters prog 15:=enters_of func15 rfl (by kernel_rfl)
end GV
end Go.Proofs.Ytdhccodneoebpaa
