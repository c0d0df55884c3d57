import Derived.Test.YtdhccodneoebpaaShWe
import Derived.Test.YtdhccodneoebpaaShXa
import Derived.Test.YtdhccodneoebpaaShXb
import Derived.Test.YtdhccodneoebpaaShXd
import Derived.Test.YtdhccodneoebpaaRows
set_option linter.unusedVariables false
set_option linter.unusedSimpArgs false
set_option linter.unusedSectionVars false
namespace Go.Proofs.Ytdhccodneoebpaa
namespace GV
open _root_.Go.Proofs.Try
open Go.IntWalk
set_option maxRecDepth 100000
set_option maxHeartbeats 20000000
theorem z6a{N:Nat}{R:RH}{m:Mach}{o:Value}(u:VRep (jf false false) R o m){r:(List (List Int))}(H:su N m=some r):CallP prog 15 #[o] R (fun v R'=>VRep (tSl false (tSl false (zz .i64))) R' v r):=by
 refine qo (args:=[o]) func15 rfl rfl fun A=>?_;rw [su] at H;refine zt (vo (T:=(jf false false)) rfl rfl rfl u fun v1 R3 w h5 h2=>?_);refine zn vs0 (j5 (zn vs0 (j5 (ku rfl pg vv rfl h2 fun v6 h7=>?_))));refine j4 rfl z3k rfl h7 fun v8 h9=>?_
 refine zi (qz rfl underlying25 rfl (jd h9)) (zn (vi (↑m.rows.length:Int)) (z8 ?_));obtain⟨x,b,H⟩:=zu H;refine jb (γ:=(List (List Int))×Value×Frag) (rs [3,4,5,9,12,49]) (fun g=>[(3,g.2.1)]) (fun g=>[g.2.2]++A) (fun g R=>x=g.1∧ORep (tSl false (zz .i64)) R g.2.2 g.2.1 g.1∧True) ?_ ?_
 refine zt (zn (vi 0) (z8 (q9 (z5j ?_))))
 refine kv (γ:=Nat×(List (List Int))×Int×Value×Frag) (rs [3,4,5,9,12,49]) (fun g=>[(3,g.2.2.2.1),(5,(vi g.2.2.1))]) (fun g=>[g.2.2.2.2]++A) (fun g R=>gu N m g.1 g.2.1 g.2.2.1=some x∧ORep (tSl false (zz .i64)) R g.2.2.2.2 g.2.2.2.1 g.2.1∧True) (fun g=>g.1) (N,[],0,vs0,emp) prm ⟨b,(z1w (T:=(tSl false (zz .i64)))),trivial⟩ ?_
 clear b;rintro⟨I,y,d,aa,z⟩ a8 bl e ⟨b,ab,_⟩;rcases I with _|I;exact qy b;replace b:gu N m (I+1) y d=some x:=b;rw [gu] at b;refine zy (zt (zl (vi d) (zl (vi (↑m.rows.length:Int)) (zi (jh rfl rfl) (z8 (qa rfl b (fun b=>?_) (fun b=>?_)))))))
 refine qc ?_;obtain⟨ac,n,b⟩:=zu b;refine jb (γ:=(List (List Int))×Value×Frag) (rs [3,4,6,9,17,49]) (fun g=>[(3,g.2.1)]) (fun g=>[g.2.2]++A) (fun g R=>ac=g.1∧ORep (tSl false (zz .i64)) R g.2.2 g.2.1 g.1∧True) ?_ ?_;refine q9 (zt (zn (.bool true) (j5 (zn vs0 (z8 ?_)))));obtain⟨l,c,n⟩:=zu n
 refine jb (γ:=(Bool×List Int)×Value×Frag) (rs [6,9,17,44]) (fun g=>[(6,(.bool g.1.1)),(7,g.2.1)]) (fun g=>[z,g.2.2]++A) (fun g R=>l=g.1∧ORep (zz .i64) R g.2.2 g.2.1 g.1.2∧True) ?_ ?_;refine zt (zn (vi 0) (z8 (q9 (z5j ?_))))
 refine kv (γ:=Nat×Bool×(List Int)×Int×Value×Frag) (rs [6,9,17,44]) (fun g=>[(6,(.bool g.2.1)),(7,g.2.2.2.2.1),(8,(vi g.2.2.2.1))]) (fun g=>[z,g.2.2.2.2.2]++A) (fun g R=>yt N m d g.1 g.2.1 g.2.2.1 g.2.2.2.1=some l∧ORep (zz .i64) R g.2.2.2.2.2 g.2.2.2.2.1 g.2.2.1∧True) (fun g=>g.1) (N,true,[],0,vs0,emp) ⟨[],(pk 1 rfl (pk 0 rfl (List.Perm.refl _)))⟩ ⟨c,(z1w (T:=(zz .i64))),trivial⟩ ?_
 clear c;rintro⟨K,p,C,a,ad,ai⟩ a9 bm f ⟨c,ae,_⟩;rcases K with _|K;exact qy c;replace c:yt N m d (K+1) p C a=some l:=c;rw [yt] at c
 refine zy (zt (zl (vi a) (zl (vi (↑m.rows.length:Int)) (zi (jh rfl rfl) (z8 (qa rfl c (fun c=>?_) (fun c=>?_)))))));refine qc ?_;obtain⟨L,j,c⟩:=zu c
 refine jb (γ:=(Bool×List Int)×Value×Frag) (rs [6,8,22,44]) (fun g=>[(6,(.bool g.1.1)),(7,g.2.1)]) (fun g=>[z,g.2.2]++A) (fun g R=>L=g.1∧ORep (zz .i64) R g.2.2 g.2.1 g.1.2∧True) ?_ ?_
 refine q9 (zt (ji (v:=o) rfl (jo z0z rfl rfl (h5.mono (e.trans f)) (u.mono ((w.trans e).trans f))) (ji (v:=(vi d)) rfl (zf rfl) (ji (v:=(vi a)) rfl (zf rfl) (ji (v:=(vi (↑m.rows.length:Int))) rfl (zf rfl) ?_)))));obtain⟨af,aK,j⟩:=zu j
 refine l6 (φ:=phX (.bool af)) rfl (vk (vs:=[o,(vi d),(vi a),(vi (↑m.rows.length:Int))]) q10 rfl (z6d (u.mono ((w.trans e).trans f)) aK) (fun _ _ h=>h)) fun bn bo k aL=>?_;obtain rfl:=Eq.symm aL
 refine ji (v:=(.bool af)) rfl (zf rfl) (j6 rfl rfl rfl rfl (fun q=>qi (v:=o) (jo z0z rfl rfl (h5.mono ((e.trans f).trans k)) (u.mono (((w.trans e).trans f).trans k)))) fun bp aM=>?_);refine j6 rfl rfl rfl rfl (fun q=>qi (v:=(vi a)) (zf rfl)) fun br aN=>?_
 refine j6 rfl rfl rfl rfl (fun q=>qi (v:=(vi d)) (zf rfl)) fun bs aO=>?_;refine j6 rfl rfl rfl rfl (fun q=>qi (v:=(vi (↑m.rows.length:Int))) (zf rfl)) fun bt aP=>?_;obtain⟨aQ,aR,j⟩:=zu j
 refine ic rfl rfl rfl rfl (fun q=>vk (vs:=[o,(vi a),(vi d),(vi (↑m.rows.length:Int))]) q10 (l9 (aM.1 (zk rfl q)) (l9 (aN.1 (zk rfl q)) (l9 (aO.1 (zk rfl q)) (l9 (aP.1 (zk rfl q)) rfl)))) ((by have aS:=(sj aR (zk rfl q));exact z6d (u.mono (((w.trans e).trans f).trans k)) aS)) (fun _ _ h=>h)) fun aT aU s ag=>?_
 replace ag:phG (true&&(af==true)) (phX (.bool (aQ.getD default))) aT aU:=ag;refine ji rfl (y5 rfl (fun hb=>(ag.1 (zk rfl hb))) rfl) (z8 (qa rfl j (fun j=>?_) (fun j=>?_)))
 refine zt (ji (v:=(.bool p)) rfl (zf rfl) (ji (v:=(.bool p)) rfl (zf rfl) (j6 rfl rfl rfl rfl (fun q=>qi (v:=(vi a)) (zf rfl)) fun bu aW=>?_)));refine j6 rfl rfl rfl rfl (fun q=>qi (v:=(vi d)) (zf rfl)) fun bv aX=>?_
 refine j6 rfl rfl rfl rfl (fun q=>qi (z6p (aW.1 (zk rfl q)) (aX.1 (zk rfl q)))) fun ba aj=>?_
 refine ji rfl (y5 rfl (fun hb=>(aj.1 (zk rfl hb))) rfl) (zn (.bool (p&&(decide (d≤a)))) (z8 (zq (zl ad (zl (vi a) (bq (T:=(zz .i64)) (X:=([a]:List Int)) (ps:=[(0,(vi a))]) (css:=[[(vi a)]]) rfl underlying36 zo3 rfl rfl (ko ⟨rfl,trivial⟩) rfl rfl (by decide) fun ak bb M al=>?_))))))
 refine uk (i:=0) rfl al fun am E an=>?_;have ao:VRep (tSl true (zz .i64)) am ak ([a]:List Int):=(z0l an M);obtain⟨S,j⟩:=ze j
 refine pz (i:=1) (X:=C) (Y:=([a]:List Int)) rfl underlying36 zo3 rfl rfl rfl (ae.mono ((k.trans s).trans E)) (jd (Sub.v (B:=(tSl false (zz .i64))) (uh Sub.refl (fun _=>rfl)) ao)) S.1 S.2 fun U ap aq=>?_;refine zn U (z8 ?_)
 exact⟨dkt,((k.trans s).trans E),jm,((p&&(decide (d≤a)),(C++([a]:List Int))),U,ap),⟨rfl,rfl,trivial⟩,prm,(Option.some.inj j).symm,aq,trivial⟩;refine qc ?_;exact⟨dkt,(k.trans s),jm,((p,C),ad,ai),⟨rfl,rfl,trivial⟩,prm,(Option.some.inj j).symm,(ae.mono (k.trans s)),trivial⟩
 rintro⟨L,aY,aZ⟩ bc bw ar ⟨rfl,a0,_⟩;refine zq (zl (vi a) ?_);obtain⟨au,c⟩:=ze c;refine zi (jg rfl rfl au) (zn (vi (a+1)) (z8 ?_));exact⟨dkt,ar,jm,(K,L.1,L.2,a+1,aY,aZ),Nat.lt_succ_self _,⟨rfl,rfl,rfl,trivial⟩,prm,c,a0,trivial⟩;refine jk ?_
 exact⟨dkt,f,jm,((p,C),ad,ai),⟨rfl,rfl,trivial⟩,prm,(Option.some.inj c).symm,ae,trivial⟩;rintro⟨l,O,a1⟩ be bx t ⟨rfl,a2,_⟩;refine zt (zl (.bool l.1) (z8 (qa rfl n (fun n=>?_) (fun n=>?_))));refine zq (zl aa (zl O (uk (i:=1) rfl a2 fun av F aw=>?_)))
 have V:VRep (tSl false (zz .i64)) av O l.2:=(z5z aw);refine bq (T:=(tSl false (zz .i64))) (X:=([l.2]:List (List Int))) (ps:=[(0,O)]) (css:=[[O]]) rfl underlying30 zp1 rfl (by simp only [List.map_cons,List.map_nil,z13 V];rfl) (ko ⟨(u7 rfl V),trivial⟩) rfl rfl (by decide) fun ax bf P ay=>?_
 refine uk (i:=0) rfl ay fun az G aA=>?_;have aB:VRep (tSl true (tSl false (zz .i64))) az ax ([l.2]:List (List Int)):=(z0l aA P);obtain⟨W,n⟩:=ze n
 refine pz (i:=0) (X:=y) (Y:=([l.2]:List (List Int))) rfl underlying30 zp1 rfl rfl rfl (ab.mono ((t.trans F).trans G)) (jd (Sub.v (B:=(tSl false (tSl false (zz .i64)))) (uh Sub.refl (fun _=>rfl)) aB)) W.1 W.2 fun Z aC aD=>?_;refine zn Z (z8 ?_)
 exact⟨dkt,((t.trans F).trans G),jm,((y++([l.2]:List (List Int))),Z,aC),⟨rfl,trivial⟩,prm,(Option.some.inj n).symm,aD,trivial⟩;refine qc ?_;exact⟨dkt,t,jm,(y,aa,z),⟨rfl,trivial⟩,⟨[a1],(pk 1 rfl (pk 0 rfl (List.Perm.refl _)))⟩,(Option.some.inj n).symm,(ab.mono t),trivial⟩;rintro⟨ac,a3,a4⟩ bg bz aE ⟨rfl,a5,_⟩
 refine zq (zl (vi d) ?_);obtain⟨aF,b⟩:=ze b;refine zi (jg rfl rfl aF) (zn (vi (d+1)) (z8 ?_));exact⟨dkt,aE,jm,(I,ac,d+1,a3,a4),Nat.lt_succ_self _,⟨rfl,rfl,trivial⟩,prm,b,a5,trivial⟩;refine jk ?_;exact⟨dkt,e,jm,(y,aa,z),⟨rfl,trivial⟩,prm,(Option.some.inj b).symm,ab,trivial⟩
 rintro⟨x,Q,bA⟩ bh bB aG ⟨rfl,a6,_⟩;refine zt (zl Q (zn Q (z8 (mg (i:=0) rfl a6 fun aH ah aI=>?_))));have aJ:VRep (tSl false (tSl false (zz .i64))) aH Q x:=(z5z aI);refine qw ?_;obtain rfl:=Option.some.inj H
 refine qg (D:=[]) (J:=[]) (rs:=[.tmp 2]) (vs:=[Q]) ((w.trans aG).trans ah) rfl rfl ⟨rfl,trivial⟩ ?_;exact⟨rfl,aJ⟩
theorem q1f:Enters prog 15:=enters_of func15 rfl (by kernel_rfl)
end GV
end Go.Proofs.Ytdhccodneoebpaa
