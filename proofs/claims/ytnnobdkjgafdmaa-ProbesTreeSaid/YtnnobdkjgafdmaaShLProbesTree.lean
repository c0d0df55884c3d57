import Derived.Test.YtnnobdkjgafdmaaShWe
import Derived.Test.YtnnobdkjgafdmaaShXa
import Derived.Test.YtnnobdkjgafdmaaShXb
import Derived.Test.YtnnobdkjgafdmaaShXc
import Derived.Test.YtnnobdkjgafdmaaShXd
import Derived.Test.YtnnobdkjgafdmaaShXe
import Derived.Test.YtnnobdkjgafdmaaRows
set_option linter.unusedVariables false
set_option linter.unusedSimpArgs false
set_option linter.unusedSectionVars false
namespace Go.Proofs.Ytnnobdkjgafdmaa
namespace GV
open _root_.Go.Proofs.Try
open Go.IntWalk
set_option maxRecDepth 100000
set_option maxHeartbeats 20000000
theorem z8q{N:Nat}{R:RH}{n:Int}{r:(List Int)}(e:l8 N n=some r):CallP prog 45 #[(vi n)] R (fun v R'=>VRep (tSl false (qb .i64)) R' v r):=by
 refine qh (args:=[(vi n)]) func45 rfl rfl fun A=>?_;rw [l8] at e;refine zk (zi vs0 (j4 (zi vs0 (z8 ?_))));obtain⟨m,a,e⟩:=zo e
 refine qp (γ:=(List Int)×Value×Frag) (rs [3,20]) (fun g=>[(3,g.2.1)]) (fun g=>[g.2.2]++A) (fun g R=>m=g.1∧ORep (qb .i64) R g.2.2 g.2.1 g.1∧True) ?_ ?_;refine zk (zi (vi 0) (z8 (zx (z2l ?_))))
 refine jc (γ:=Nat×(List Int)×Int×Value×Frag) (rs [3,20]) (fun g=>[(3,g.2.2.2.1),(4,(vi g.2.2.1))]) (fun g=>[g.2.2.2.2]++A) (fun g R=>cz N n g.1 g.2.1 g.2.2.1=some m∧ORep (qb .i64) R g.2.2.2.2 g.2.2.2.1 g.2.1∧True) (fun g=>g.1) (N,[],0,vs0,emp) prm ⟨a,(lm (T:=(qb .i64))),trivial⟩ ?_;clear a
 rintro⟨w,d,b,h,o⟩ Z aa p ⟨a,j,_⟩;rcases w with _|w;exact qo a;replace a:cz N n (w+1) d b=some m:=a;rw [cz] at a;refine zt (zk (zh (vi n) (zh (vi b) ?_)));obtain⟨y,a⟩:=zb a
 refine zl (z8l rfl rfl y) (zl (z5a rfl rfl) (z8 (zu rfl a (fun a=>?_) (fun a=>?_))));refine qa ?_;obtain⟨k,c,a⟩:=zo a;refine qp (γ:=(List Int)×Value×Frag) (rs [3,4,11,20]) (fun g=>[(3,g.2.1)]) (fun g=>[g.2.2]++A) (fun g R=>k=g.1∧ORep (qb .i64) R g.2.2 g.2.1 g.1∧True) ?_ ?_
 refine zx (zk (zh (vi n) (zh (vi b) ?_)));obtain⟨z,c⟩:=zb c;refine zl (z8l rfl rfl z) ?_;obtain⟨C,c⟩:=zb c;refine zl (z6w rfl rfl C) (zl (yu rfl rfl) (z8 (zu rfl c (fun c=>?_) (fun c=>?_))))
 refine zm (zh h (zh (vi b) (sw (T:=(qb .i64)) (X:=([b]:List Int)) (ps:=[(0,(vi b))]) (css:=[[(vi b)]]) rfl underlying32 zo3 rfl rfl (ky ⟨rfl,trivial⟩) rfl rfl (by decide) fun E ab l F=>?_)));refine vo (i:=0) rfl F fun G f H=>?_
 have I:VRep (tSl true (qb .i64)) G E ([b]:List Int):=(z3o H l);obtain⟨q,c⟩:=zb c;refine pu (i:=0) (X:=d) (Y:=([b]:List Int)) rfl underlying32 zo3 rfl rfl rfl (j.mono f) (ja (Sub.v (B:=(tSl false (qb .i64))) (uh Sub.refl (fun _=>rfl)) I)) q.1 q.2 fun s K L=>?_;refine zi s (z8 ?_)
 exact⟨dkt,f,jm,((d++([b]:List Int)),s,K),⟨rfl,trivial⟩,prm,(Option.some.inj c).symm,L,trivial⟩;refine qa ?_;exact⟨dkt,(RH.le.refl _),jm,(d,h,o),⟨rfl,trivial⟩,prm,(Option.some.inj c).symm,j,trivial⟩;rintro⟨k,M,O⟩ ac ad t ⟨rfl,P,_⟩;refine zm (zh (vi b) ?_);obtain⟨Q,a⟩:=zb a
 refine zl (jg rfl rfl Q) (zi (vi (b+1)) (z8 ?_));exact⟨dkt,t,jm,(w,k,b+1,M,O),Nat.lt_succ_self _,⟨rfl,rfl,trivial⟩,prm,a,P,trivial⟩;refine jf ?_;exact⟨dkt,p,jm,(d,h,o),⟨rfl,trivial⟩,prm,(Option.some.inj a).symm,j,trivial⟩;rintro⟨m,x,f5⟩ ae R2 S ⟨rfl,h6,_⟩
 refine zk (zh x (zi x (z8 (il (i:=0) rfl h6 fun U u V=>?_))));have W:VRep (tSl false (qb .i64)) U x m:=(z5v V);refine qx ?_;obtain rfl:=Option.some.inj e;refine qd (D:=[]) (J:=[]) (rs:=[.tmp 2]) (vs:=[x]) (S.trans u) rfl rfl ⟨rfl,trivial⟩ ?_;exact⟨rfl,W⟩
theorem qat:Enters prog 45:=enters_of func45 rfl (by kernel_rfl)
theorem qcv:ZeroOk prog 32 tHdr vs0 24:=by
 obtain⟨i,zv,hi,a,c,d,f⟩:=z3q (P:=prog) (e:=32) (zv:=vs0) (k:=1) (b:=24) (by kernel_rfl);exact⟨i,zv,hi,a,c,d,fun R=>by subst f;exact⟨rfl,rfl⟩⟩
theorem ze1{N:Nat}{R:RH}{m:Mach}{au:Value}(a1:VRep (jy false false) R au m){block:(List Int)}{w:Value}(U:VRep (tSl false (qb .i64)) R w block){i:Int}{r:(List (List Int))×Bool}(M:z2g N m block i=some r):CallP prog 69 #[au,w,(vi i)] R (fun v R'=> ∃ u0,v= .tuple #[u0,(.bool r.2)]∧VRep (tSl true (tSl false (qb .i64))) R' u0 r.1):=by
 refine qh (args:=[au,w,(vi i)]) func69 rfl rfl fun A=>?_;rw [z2g] at M;refine zk (ug (T:=(jy false false)) rfl rfl rfl a1 fun v1 R3 ak h5 h2=>?_);refine zi vs0 (zi (.bool false) (j4 (je rfl zby z8e rfl h2 fun v6 h7=>?_)));refine qj rfl ty3 rfl h7 fun v8 h9=>?_
 obtain rfl:=j5.1 h9;obtain⟨al,M⟩:=zb M;refine zhs (Oc:=[]) (Or:=[]++A) rfl (List.Perm.refl _) (zzn (t:=false) (T:=(qb .i64)) (n:=m.outputs.toNat) underlying72 qcv (zg rfl al.1) (zg rfl al.1) (zdv al) (zdy al)) ?_;rintro s b3 bA bB ⟨rfl,a2,rfl,a3,av⟩;refine zi s (z8 ?_)
 obtain⟨aw,k,M⟩:=zo M;refine qp (γ:=(List (List Int))×Frag) (rs [6,8,9,12,15,66]) (fun g=>[]) (fun g=>[g.2]++A) (fun g R=>aw=Ex.go g.1∧NRep false (qb .i64) R g.2 s g.1∧capOf s=g.1.length∧True) ?_ ?_
 refine zk (zi (vi 0) (z8 (zx (jc (γ:=Nat×Int×(List (List Int))×Frag) (rs [6,8,9,12,15,66]) (fun g=>[(9,(vi g.2.1))]) (fun g=>[g.2.2.2]++A) (fun g R=>o9 N m block i g.1 g.2.1 g.2.2.1=some aw∧NRep false (qb .i64) R g.2.2.2 s g.2.2.1∧capOf s=g.2.2.1.length∧True) (fun g=>g.1) (N,0,(mk m.outputs ([]:List Int)),a2) prm ⟨k,(ae a3),(av.trans List.length_replicate.symm),trivial⟩ ?_))))
 clear k;rintro⟨am,a,K,ac⟩ bC b4 V ⟨k,⟨aa,L⟩,ap,_⟩;rcases am with _|am;exact qo k;replace k:o9 N m block i (am+1) a K=some aw:=k;rw [o9] at k
 refine zt (zk (zh (vi a) (zh w (zl (qw rfl underlying32 rfl (ja (U.mono (ak.trans V)))) (zl (j6 rfl rfl) (z8 (zu rfl k (fun k=>?_) (fun k=>?_))))))));refine qa (zt (zx (zt ?_)));obtain⟨aB,aC,aD,k⟩:=q3j k
 refine oh 12 [⟨11,[.int .i64 0,.int .i64 0],57⟩] [phP (tSl false (tSl false kEdge)) m.rows,phR (tSl false (tSl false kEdge)) m.rows,phX w,phX (vi a),phP (qb .i64) (ix block a),phX (vi (ix block a)),phP (tSl false kEdge) (ix m.rows (ix block a)),phR (tSl false kEdge) (ix m.rows (ix block a)),phX (vi i),phP kEdge (ix (ix m.rows (ix block a)) i),phX (z0l (ix (ix m.rows (ix block a)) i)),phB] mixed (by kernel_rfl) (bi ⟨uf,bf,zq,zq,uf,zq,uf,bf,zq,uf,zq,zlj,trivial⟩) ⟨?_,?_,?_,?_,?_,?_,?_,?_,?_,?_,?_,?_,trivial⟩ fun b5 q=>?_
 intro l a4 c x H;exact za rfl rfl rfl (yt xc uy (x 3 rfl) ((h2.mono V).mono c));rintro l a5 c x ⟨y,_⟩;exact za rfl rfl rfl (jo z3p rfl (y rfl));intro l a6 c x H;exact za rfl rfl rfl (q8 (zf (x 1 rfl)));intro l a7 c x H;exact za rfl rfl rfl (q8 (zf (x 9 rfl)));rintro l a8 c x ⟨y,d1,_⟩
 have aE:=d1 rfl;exact za rfl rfl rfl (uj (i:=a.toNat) ic (y rfl) (ja ((U.mono (ak.trans V)).mono c)) (zg aE aB.1) (zy aB));rintro l a9 c x ⟨y,_⟩;exact za rfl rfl rfl (yf (jo ty3 rfl (y rfl)) (fun _ _ h=>j5.1 h));rintro l ba c x ⟨y,d1,_⟩
 exact za rfl rfl rfl (uj (i:=(ix block a).toNat) zaq rfl (ja (y rfl)) (zg (d1 rfl) aC.1) (zy aC));rintro l bb c x ⟨y,_⟩;exact za rfl rfl rfl (jo za8 rfl (y rfl));intro l bc c x H;exact za rfl rfl rfl (q8 (zf (x 2 rfl)));rintro l be c x ⟨y,d1,_⟩
 exact za rfl rfl rfl (uj (i:=i.toNat) zb5 rfl (ja (y rfl)) (zg (d1 rfl) aD.1) (zy aD));rintro l aF c x ⟨y,_⟩;exact za rfl rfl rfl (yf (jo zf1 rfl (y rfl)) (fun _ _ h=>fq.1 h));intro l aG c x H;exact zcc rfl rfl rfl rfl zen
 intro b6 b7 b8 b9 ca bg cb bh cc cd ce bj cf cg ch ci cj bk ck cl cm bl cn bm;obtain rfl:=Eq.symm bg;obtain rfl:=Eq.symm bh;obtain rfl:=Eq.symm bj;obtain rfl:=Eq.symm bk;obtain rfl:=Eq.symm bl;obtain⟨C,rfl⟩:=bm
 refine jr (i:=0) (vs:=[(vi ((ix (ix m.rows (ix block a)) i).to)),(vi ((ix (ix m.rows (ix block a)) i).out))]) zbf rfl rfl rfl rfl rfl rfl (qf rfl (qf rfl jv)) ?_;refine z8 ?_;obtain⟨ax,o,k⟩:=zo k
 refine qp (γ:=Unit) (rs [6,8,11,12,32,53]) (fun g=>[]) (fun g=>[ac,box C [(vi ((ix (ix m.rows (ix block a)) i).to)),(vi ((ix (ix m.rows (ix block a)) i).out))] 57]++A) (fun g R=>ax=Ex.go g∧True) ?_ ?_
 refine zk (zi (vi 0) (z8 (zx (jc (γ:=Nat×Int) (rs [6,8,11,12,32,53]) (fun g=>[(11,(vi g.2))]) (fun g=>[ac,box C [(vi ((ix (ix m.rows (ix block a)) i).to)),(vi ((ix (ix m.rows (ix block a)) i).out))] 57]++A) (fun g R=>tq N m block i a K g.1 g.2=some ax∧True) (fun g=>g.1) (N,0) ⟨[],(pk 1 rfl (pk 0 rfl (List.Perm.refl _)))⟩ ⟨o,trivial⟩ ?_))))
 clear o;rintro⟨an,W⟩ bD co E ⟨o,_⟩;rcases an with _|an;exact qo o;replace o:tq N m block i a K (an+1) W=some ax:=o;rw [tq] at o;refine zt (zk (zh (vi W) (zh s (zl (qg z5n rfl) (zl (qi (i:=1) ag3 rfl rfl rfl) ?_)))));obtain⟨ao,o⟩:=zb o
 refine z2z rfl (z8y (i:=((ix (ix m.rows (ix block a)) i).out).toNat) (zbw (b:=true) zo0) rfl (L.mono (q.trans E)) (zg rfl ao.1) (zy ao)) fun cp cq F bn=>?_
 refine z2z rfl (zc9 (i:=((ix (ix m.rows (ix block a)) i).out).toNat) (j:=0) (zb3 (b:=true) zcb) (L.mono ((q.trans E).trans F)) rfl rfl bn (zy ao)) fun cr cs I bo=>?_;obtain rfl:=Eq.symm bo
 refine z2z rfl (q8 (q02 (r:=((ix (ix m.rows (ix block a)) i).out).toNat) rfl underlying32 (L.mono (((q.trans E).trans F).trans I)) (zy ao) rfl)) fun ct cu P bp=>?_;obtain rfl:=Eq.symm bp;refine zl (j6 rfl rfl) (z8 (zu rfl o (fun o=>?_) (fun o=>?_)))
 refine qa (zt (zx (zt (z4j 11 mixed (by kernel_rfl) (by kernel_rfl) ?_))));refine uw (v:=s) (zf rfl) ?_;refine uw (v:=(.pointer (some ⟨C,1,none⟩))) (qg z5n rfl) ?_;refine uw (v:=(vi ((ix (ix m.rows (ix block a)) i).out))) (qi (i:=1) ag3 rfl rfl rfl) ?_;obtain⟨af,o⟩:=zb o
 refine z3n (zjv (i:=((ix (ix m.rows (ix block a)) i).out).toNat) (zbw (b:=true) zo0) rfl (L.mono ((((q.trans E).trans F).trans I).trans P)) (zg rfl af.1) (zy af)) fun cv bq=>?_
 refine uw (v:=(aa.getD ((ix (ix m.rows (ix block a)) i).out).toNat default)) (q9u (zm6 (i:=((ix (ix m.rows (ix block a)) i).out).toNat) (j:=0) (zb3 (b:=true) zcb) (L.mono ((((q.trans E).trans F).trans I).trans P)) rfl rfl bq (zy af))) ?_;refine uw (v:=(vi W)) (zf rfl) ?_;obtain⟨ag,o⟩:=zb o
 refine z3n (zgh (i:=W.toNat) (r:=((ix (ix m.rows (ix block a)) i).out).toNat) ic (L.mono ((((q.trans E).trans F).trans I).trans P)) (zy af) rfl (zg rfl ag.1) (zy ag)) fun bE aH=>?_
 refine uw (nz (zzh (i:=W.toNat) (r:=((ix (ix m.rows (ix block a)) i).out).toNat) (j:=0) ty3 (L.mono ((((q.trans E).trans F).trans I).trans P)) (zy af) rfl rfl aH (zy ag))) ?_;refine uw (v:=(.pointer (some ⟨C,0,none⟩))) (qg z0v rfl) ?_
 refine uw (v:=(vi ((ix (ix m.rows (ix block a)) i).to))) (qi (i:=1) ag3 rfl rfl rfl) ?_;refine uw (yu rfl rfl) ?_;intro bF ah;refine z8 (zu rfl o (fun o=>?_) (fun o=>?_));refine zk (zi vs0 (zi (.bool false) (z8 (qx ?_))));replace k:=z2q o k;replace M:=z2q k M;obtain rfl:=Option.some.inj M
 refine qd (D:=[]) (J:=[ac,box C [(vi ((ix (ix m.rows (ix block a)) i).to)),(vi ((ix (ix m.rows (ix block a)) i).out))] 57]) (rs:=[.tmp 6,.tmp 7]) (vs:=[vs0,(.bool false)]) (((((((ak.trans V).trans q).trans E).trans F).trans I).trans P).trans ah) rfl rfl ⟨rfl,rfl,trivial⟩ ?_;exact⟨rfl,⟨vs0,rfl,z5w⟩⟩
 refine qa (zm (zh (vi W) ?_));obtain⟨aI,o⟩:=zb o;refine zl (jg rfl rfl aI) (zi (vi (W+1)) (z8 ?_));exact⟨dkt,(((F.trans I).trans P).trans ah),jm,(an,W+1),Nat.lt_succ_self _,⟨rfl,trivial⟩,prm,o,trivial⟩;refine jf ?_
 exact⟨dkt,(((E.trans F).trans I).trans P),jm,(),trivial,prm,(Option.some.inj o).symm,trivial⟩;rintro cw bG cx Z ⟨rfl,_⟩;replace k:=z4h k;obtain⟨ab,aq,ai,k⟩:=q3j k;let G1:=([(ix (ix m.rows (ix block a)) i).to]:List Int)
 refine zpo [11,13] [(fun es=>phX s),(fun es=>phX (.pointer (some ⟨C,1,none⟩))),(fun es=>phX (vi ((ix (ix m.rows (ix block a)) i).out))),(fun es=>phX s),(fun es=>phX (.pointer (some ⟨C,1,none⟩))),(fun es=>phX (vi ((ix (ix m.rows (ix block a)) i).out))),(fun es=>(fun u _=>z5s tHdr s aa u ((ix (ix m.rows (ix block a)) i).out).toNat)),(fun es=>phX (aa.getD ((ix (ix m.rows (ix block a)) i).out).toNat default)),(fun es=>phX (.pointer (some ⟨C,0,none⟩))),(fun es=>phX (vi ((ix (ix m.rows (ix block a)) i).to))),(fun es=>phR (tSl true (qb .i64)) G1),(fun es=>(fun v _=>v.oneCell'=true)),(fun es=>(fun u _=>z5s tHdr s aa u ((ix (ix m.rows (ix block a)) i).out).toNat)),(fun es=>(fun _ _=>True))] (fun fl es R O=>(fl=[false,false]∧O.Perm ([ac,box C [(vi ((ix (ix m.rows (ix block a)) i).to)),(vi ((ix (ix m.rows (ix block a)) i).out))] 57]++A)∧True)∨(fl=[true,false]∧ ∃ (fK:Frag) (fP:Frag),O.Perm ([fK,box C [(vi ((ix (ix m.rows (ix block a)) i).to)),(vi ((ix (ix m.rows (ix block a)) i).out))] 57,fP]++A)∧N2h false (qb .i64) ((ix (ix m.rows (ix block a)) i).out).toNat R fK s aa K∧ORep (qb .i64) R fP (es.getD 0 undef) ((ix K ((ix (ix m.rows (ix block a)) i).out))++G1)∧True)∨(fl=[true,true]∧ ∃ (fK:Frag),O.Perm ([fK,box C [(vi ((ix (ix m.rows (ix block a)) i).to)),(vi ((ix (ix m.rows (ix block a)) i).out))] 57]++A)∧N2 false (qb .i64) R fK s (aa.set ((ix (ix m.rows (ix block a)) i).out).toNat (es.getD 0 undef)) (up K ((ix (ix m.rows (ix block a)) i).out) ((ix K ((ix (ix m.rows (ix block a)) i).out))++G1))∧True)) mixed (by kernel_rfl) ⟨(dm zq),(dm zq),(dm zq),(dm zq),(dm zq),(dm zq),(dm (fun _ _ _ _ h=>h)),(dm zq),(dm zq),(dm zq),(dm bf),(fun _ _ _ _ _ h=>h),(dm (fun _ _ _ _ h=>h)),(fun _ _ _ _ _ h=>h),trivial⟩ (by rintro fl es R R' O c (⟨rfl,z,_⟩|⟨rfl,fK,fP,z,d,p,_⟩|⟨rfl,fK,z,d,_⟩);exact(.inl ⟨rfl,z,trivial⟩);exact(.inr (.inl ⟨rfl,fK,fP,z,(d.mono c),(p.mono c),trivial⟩));exact(.inr (.inr ⟨rfl,fK,z,(d.mono c),trivial⟩))) ⟨(fun _ _ _ _ _ h=>h),(fun _ _ _ _ _ h=>h),(fun _ _ _ _ _ h=>h),(fun _ _ _ _ _ h=>h),(fun _ _ _ _ _ h=>h),(fun _ _ _ _ _ h=>h),(fun _ _ _ _ _ h=>h),(fun _ _ _ _ _ h=>h),(fun _ _ _ _ _ h=>h),(fun _ _ _ _ _ h=>h),(fun _ _ _ _ _ h=>h),(fun _ _ _ _ _ h=>h),(fun _ _ _ _ _ h=>h),(fun _ _ _ _ _ h=>h),trivial⟩ (fun es=> .inl ⟨rfl,(List.Perm.refl _),trivial⟩) ⟨?_,?_,?_,?_,?_,?_,?_,?_,?_,?_,?_,?_,?_,?_,trivial⟩ fun aJ az=>?_
 intro l a4 fl O c x H Q S;exact q8 (zf (x 8 rfl));intro l a5 fl O c x H Q S;exact q8 (qg z5n (x 10 rfl));intro l a6 fl O c x H Q S;obtain⟨y,_⟩:=H;rcases S with⟨rfl,z,_⟩|⟨rfl,fK,fP,z,d,p,_⟩|⟨rfl,fK,z,d,_⟩;exact z7s z (q8 (qi (i:=1) ag3 (y rfl) rfl rfl))
 exact z7s z (q8 (qi (i:=1) ag3 (y rfl) rfl rfl));exact z8m Q (by kernel_rfl);intro l a7 fl O c x H Q S;exact q8 (zf (x 8 rfl));intro l a8 fl O c x H Q S;exact q8 (qg z5n (x 10 rfl));intro l a9 fl O c x H Q S;obtain⟨y,_⟩:=H
 rcases S with⟨rfl,z,_⟩|⟨rfl,fK,fP,z,d,p,_⟩|⟨rfl,fK,z,d,_⟩;exact z7s z (q8 (qi (i:=1) ag3 (y rfl) rfl rfl));exact z8m Q (by kernel_rfl);exact z8m Q (by kernel_rfl);intro l ba fl O c x H Q S;obtain⟨y,d1,_⟩:=H
 exact z8y (i:=((ix (ix m.rows (ix block a)) i).out).toNat) (zbw (b:=true) zo0) (y rfl) ((L.mono (q.trans Z)).mono c) (zg (d1 rfl) ab.1) (zy ab);intro l bb fl O c x H Q S;obtain⟨y,_⟩:=H;rcases S with⟨rfl,z,_⟩|⟨rfl,fK,fP,z,d,p,_⟩|⟨rfl,fK,z,d,_⟩
 exact z7s z (zc9 (i:=((ix (ix m.rows (ix block a)) i).out).toNat) (j:=0) (zb3 (b:=true) zcb) ((L.mono (q.trans Z)).mono c) rfl rfl (y rfl) (zy ab));exact z8m Q (by kernel_rfl);exact z8m Q (by kernel_rfl);intro l bc fl O c x H Q S;exact q8 (qg z0v (x 10 rfl));intro l be fl O c x H Q S;obtain⟨y,_⟩:=H
 rcases S with⟨rfl,z,_⟩|⟨rfl,fK,fP,z,d,p,_⟩|⟨rfl,fK,z,d,_⟩;exact z7s z (q8 (qi (i:=1) ag3 (y rfl) rfl rfl));exact z8m Q (by kernel_rfl);exact z8m Q (by kernel_rfl);intro l aF fl O c x H Q S;obtain⟨y,_⟩:=H;have br:l 62=(vi ((ix (ix m.rows (ix block a)) i).to)):=y rfl
 exact z5d (T:=(qb .i64)) (X:=G1) (ps:=[(0,(vi ((ix (ix m.rows (ix block a)) i).to)))]) (css:=[[(vi ((ix (ix m.rows (ix block a)) i).to))]]) underlying32 zo3 (by simp only [List.map,ev,br]<;>rfl) rfl (ky ⟨rfl,trivial⟩) rfl rfl (by decide);intro l aG fl O c x H Q hf S;obtain⟨y,d1,_⟩:=H
 rcases S with⟨rfl,z,_⟩|⟨rfl,fK,fP,z,d,p,_⟩|⟨rfl,fK,z,d,_⟩;refine z4d z ?_;refine z4d (O1:=[ac]++([box C [(vi ((ix (ix m.rows (ix block a)) i).to)),(vi ((ix (ix m.rows (ix block a)) i).out))] 57]++A)) (List.Perm.refl _) ?_
 refine Eff.mono (zq1 (r:=((ix (ix m.rows (ix block a)) i).out).toNat) (Y:=G1) underlying32 zo3 ((L.mono (q.trans Z)).mono c) (zy ab) (y rfl) rfl (ja (Sub.v (B:=(tSl false (qb .i64))) (uh Sub.refl (fun _=>rfl)) (d1 rfl))) aq.1 aq.2) ?_;rintro v R' O' hle' ⟨_,rfl,rfl,f',G,rfl,h2,h⟩
 exact⟨(z0w h),.inr (.inl ⟨rfl,G,f',(pk 0 rfl (pk 1 rfl (pk 0 rfl (List.Perm.refl _)))),h2,h,trivial⟩)⟩;cases hf;cases hf;intro l bH fl O c x H Q S;obtain⟨y,d1,d2,d3,d4,d5,d6,d7,d8,d9,bs,bt,bu,bv,_⟩:=H
 exact z8y (i:=((ix (ix m.rows (ix block a)) i).out).toNat) (zbw (b:=true) zo0) (y rfl) ((L.mono (q.trans Z)).mono c) (zg (d1 rfl) ai.1) (zy ai);intro l bI fl O c x H Q hf S;obtain⟨y,d1,d2,d3,d4,d5,d6,d7,d8,d9,bs,bt,bu,bv,cG,_⟩:=H;have cH:=d1 rfl
 rcases S with⟨rfl,z,_⟩|⟨rfl,fK,fP,z,d,p,_⟩|⟨rfl,fK,z,d,_⟩;exact z8m Q (by kernel_rfl);refine z4d z ?_;refine z4d (O1:=[fK,fP]++([box C [(vi ((ix (ix m.rows (ix block a)) i).to)),(vi ((ix (ix m.rows (ix block a)) i).out))] 57]++A)) (pk 0 rfl (pk 1 rfl (pk 0 rfl (List.Perm.refl _)))) ?_
 refine Eff.mono (zyt (r:=((ix (ix m.rows (ix block a)) i).out).toNat) (zb3 (b:=true) zcb) d (zy ai) rfl (y rfl) rfl p (fun e=>nomatch e)) ?_;rintro v R' O' hle' ⟨_,rfl,rfl,f,rfl,h⟩;exact⟨trivial,.inr (.inr ⟨rfl,f,(List.Perm.refl _),h,trivial⟩)⟩;cases hf
 intro bJ bK bL bM bN bO bP bQ bR bS bT aK bU aL aM aN aO aP aQ bV bW aR aS bX bY bZ;rintro bw (⟨e,_⟩|⟨e,_⟩|⟨_,ar,z,aj,_⟩);cases e;cases e;refine⟨[],_,z,?_⟩
 replace aj:N2 false (qb .i64) aJ ar s (aa.set ((ix (ix m.rows (ix block a)) i).out).toNat aK) (up K ((ix (ix m.rows (ix block a)) i).out) ((ix K ((ix (ix m.rows (ix block a)) i).out))++G1)):=aj;obtain rfl:=Eq.symm aL;obtain rfl:=Eq.symm aM;obtain rfl:=Eq.symm aN;obtain rfl:=Eq.symm aO;obtain rfl:=Eq.symm aP;obtain rfl:=Eq.symm aQ
 obtain rfl:=Eq.symm aR;obtain rfl:=Eq.symm aS;refine z8 (zm (zh (vi a) ?_));obtain⟨aT,k⟩:=zb k;refine zl (jg rfl rfl aT) (zi (vi (a+1)) (z8 ?_))
 exact⟨dkt,((q.trans Z).trans az),jm,(am,a+1,(up K ((ix (ix m.rows (ix block a)) i).out) ((ix K ((ix (ix m.rows (ix block a)) i).out))++G1)),ar),Nat.lt_succ_self _,⟨rfl,trivial⟩,⟨[box C [(vi ((ix (ix m.rows (ix block a)) i).to)),(vi ((ix (ix m.rows (ix block a)) i).out))] 57],(pk 1 rfl (pk 0 rfl (List.Perm.refl _)))⟩,k,(ae aj),(ap.trans List.length_set.symm),trivial⟩
 refine jf ?_;exact⟨dkt,V,jm,(K,ac),trivial,prm,(Option.some.inj k).symm,(ae L),ap,trivial⟩;rintro⟨bx,aE⟩ b0 cI aU ⟨rfl,⟨cJ,bz⟩,aV,_⟩;replace M:=z4h M;refine zk (zh s (zi s (zi (.bool true) (z8 (zgr (i:=0) rfl (ae bz) fun aW aA aX=>?_)))))
 have aY:VRep (tSl true (tSl false (qb .i64))) aW s bx:=(z3o aX aV);refine qx ?_;obtain rfl:=Option.some.inj M;refine qd (D:=[]) (J:=[]) (rs:=[.tmp 6,.tmp 7]) (vs:=[s,(.bool true)]) ((ak.trans aU).trans aA) rfl rfl ⟨rfl,rfl,trivial⟩ ?_;exact⟨rfl,⟨s,rfl,aY⟩⟩
theorem qds:Enters prog 69:=enters_of func69 rfl (by kernel_rfl)
theorem z9v{N:Nat}{R:RH}{block:(List Int)}{b:Value}(c:VRep (tSl false (qb .i64)) R b block){r:Int}(d:z1k N block=some r):CallP prog 66 #[b] R (fun v R'=>v=(vi r)):=by
 refine qh (args:=[b]) func66 rfl rfl fun A=>?_;rw [z1k] at d;refine zk (zi (vi 0) (j4 (zi (vi 0) (z8 ?_))));obtain⟨f,a,d⟩:=zo d;refine qp (γ:=Int) (rs [3,18]) (fun g=>[(3,(vi g))]) (fun g=>[]++A) (fun g R=>f=g∧True) ?_ ?_
 refine zk (zi (vi 0) (z8 (zx (jc (γ:=Nat×Int×Int) (rs [3,18]) (fun g=>[(3,(vi g.2.1)),(4,(vi g.2.2))]) (fun g=>[]++A) (fun g R=>wm N block g.1 g.2.1 g.2.2=some f∧True) (fun g=>g.1) (N,0,0) prm ⟨a,trivial⟩ ?_))));clear a;rintro⟨l,j,e⟩ t y h ⟨a,_⟩;rcases l with _|l;exact qo a
 replace a:wm N block (l+1) j e=some f:=a;rw [wm] at a;refine zt (zk (zh (vi e) (zh b (zl (qw rfl underlying32 rfl (ja (c.mono h))) (zl (j6 rfl rfl) (z8 (zu rfl a (fun a=>?_) (fun a=>?_))))))))
 refine qa (zt (zx (zm (zh (vi j) (zh b (zh (vi e) ?_))))));obtain⟨k,a⟩:=zb a;refine kg (i:=e.toNat) rfl ic rfl (ja (c.mono h)) (zg rfl k.1) (zy k) fun u m=>?_;refine qj rfl ty3 rfl m fun w n=>?_;obtain rfl:=j5.1 n;obtain⟨o,a⟩:=zb a
 refine zl (z7c rfl rfl o) ?_;obtain⟨p,a⟩:=zb a;refine zl (jg rfl rfl p) (zi (vi (j+(lh .i64 (1:Int) (ix block e)))) (z8 (zm (zh (vi e) ?_))));obtain⟨q,a⟩:=zb a;refine zl (jg rfl rfl q) (zi (vi (e+1)) (z8 ?_))
 exact⟨dkt,(RH.le.refl _),jm,(l,j+(lh .i64 (1:Int) (ix block e)),e+1),Nat.lt_succ_self _,⟨rfl,rfl,trivial⟩,prm,a,trivial⟩;refine jf ?_;exact⟨dkt,h,jm,j,⟨rfl,trivial⟩,prm,(Option.some.inj a).symm,trivial⟩;rintro f x z s ⟨rfl,_⟩;refine zk (zh (vi f) (zi (vi f) (z8 (qx ?_))));obtain rfl:=Option.some.inj d
 refine qd (D:=[]) (J:=[]) (rs:=[.tmp 2]) (vs:=[(vi f)]) s rfl rfl ⟨rfl,trivial⟩ ?_;exact⟨rfl,rfl⟩
theorem qb0:Enters prog 66:=enters_of func66 rfl (by kernel_rfl)
theorem z8u{N:Nat}{R:RH}{m:Mach}{u:Value}(w:VRep (jy false false) R u m){l:(List Int)}{h:Value}(y:VRep (tSl false (qb .i64)) R h l){block:(List Int)}{b:Value}(n:VRep (tSl false (qb .i64)) R b block){i:Int}{level:Int}{r:Bool}(k:iy N m l block i level=some r):CallP prog 46 #[u,h,b,(vi i),(vi level)] R (fun v R'=>v=(.bool r)):=by
 refine qh (args:=[u,h,b,(vi i),(vi level)]) func46 rfl rfl fun A=>?_;rw [iy] at k;refine zk (ug (T:=(jy false false)) rfl rfl rfl w fun v1 R3 o X h2=>?_);refine zi (.bool false) (j4 (zl (u7 z2i rfl rfl X (w.mono o)) (zh b (zh (vi i) ?_))))
 obtain⟨z,Y,k⟩:=zo k;refine jh rfl qds rfl (ze1 (w.mono o) (n.mono o) Y) fun v8 Z s h9=>?_;obtain⟨p,rfl,B⟩:=h9;refine zh (.tuple #[p,(.bool z.2)]) (zl (jl rfl rfl) (zl (jl rfl rfl) (zi p (zi (.bool z.2) (z8 ?_)))));obtain⟨d,a,k⟩:=zo k
 refine qp (γ:=Bool) (rs [12,15,22,46]) (fun g=>[(12,(.bool g))]) (fun g=>[]++A) (fun g R=>d=g∧True) ?_ ?_
 refine zk (zi (vi 0) (z8 (zx (jc (γ:=Nat×Bool×Int) (rs [12,15,22,46]) (fun g=>[(12,(.bool g.2.1)),(13,(vi g.2.2))]) (fun g=>[]++A) (fun g R=>uk N l level z g.1 g.2.1 g.2.2=some d∧True) (fun g=>g.1) (N,z.2,0) prm ⟨a,trivial⟩ ?_))));clear a;rintro⟨q,e,f⟩ ab ac j ⟨a,_⟩;rcases q with _|q
 exact qo a;replace a:uk N l level z (q+1) e f=some d:=a;rw [uk] at a;refine zt (zk (zh (vi f) (zh p (zl (qw rfl underlying72 rfl (ja (B.mono j))) (zl (j6 rfl rfl) (z8 (zu rfl a (fun a=>?_) (fun a=>?_))))))))
 refine qa (zt (zx (zk (zh h (zh p (zh (vi f) ?_))))));obtain⟨C,a⟩:=zb a;refine kg (i:=f.toNat) rfl zo0 rfl (ja (B.mono j)) (zg rfl C.1) (zy C) fun ad G=>?_;refine qj rfl zcb rfl G fun ae H=>?_;obtain⟨c,I,a⟩:=zo a
 refine jh rfl qb0 rfl (z9v H I) fun af ag t K=>?_;obtain rfl:=K;obtain⟨E,a⟩:=zb a;refine kg (i:=c.toNat) rfl ic rfl (ja (y.mono (((o.trans s).trans j).trans t))) (zg rfl E.1) (zy E) fun ah L=>?_;refine qj rfl ty3 rfl L fun ai M=>?_;obtain rfl:=j5.1 M
 refine zi (vi (ix l c)) (z8 (zm (jq (v:=(.bool e)) rfl (zf rfl) (jq (v:=(.bool e)) rfl (zf rfl) (qz rfl rfl rfl rfl (fun x=>ql (v:=(vi (ix l c))) (zf rfl)) fun aj O=>?_)))));refine qz rfl rfl rfl rfl (fun x=>ql (z2a (O.1 (zn rfl x)) rfl)) fun ak P=>?_
 refine jq rfl (ny rfl (fun Q=>(P.1 (zn rfl Q))) rfl) (jq (v:=(.bool (e&&(decide (0≤(ix l c)))))) rfl (zf rfl) (qz rfl rfl rfl rfl (fun x=>ql (v:=(vi (ix l c))) (zf rfl)) fun al S=>?_));refine qz rfl rfl rfl rfl (fun x=>ql (v:=(vi level)) (zf rfl)) fun am U=>?_
 refine qz rfl rfl rfl rfl (fun x=>ql (j6 (S.1 (zn rfl x)) (U.1 (zn rfl x)))) fun an V=>?_;refine jq rfl (ny rfl (fun Q=>(V.1 (zn rfl Q))) rfl) (zi (.bool ((e&&(decide (0≤(ix l c))))&&(decide ((ix l c)<level)))) (z8 (zm (zh (vi f) ?_))));obtain⟨W,a⟩:=zb a
 refine zl (jg rfl rfl W) (zi (vi (f+1)) (z8 ?_));exact⟨dkt,t,jm,(q,(e&&(decide (0≤(ix l c))))&&(decide ((ix l c)<level)),f+1),Nat.lt_succ_self _,⟨rfl,rfl,trivial⟩,prm,a,trivial⟩;refine jf ?_;exact⟨dkt,j,jm,e,⟨rfl,trivial⟩,prm,(Option.some.inj a).symm,trivial⟩;rintro d ao ap F ⟨rfl,_⟩
 refine zk (zh (.bool d) (zi (.bool d) (z8 (qx ?_))));obtain rfl:=Option.some.inj k;refine qd (D:=[]) (J:=[]) (rs:=[.tmp 10]) (vs:=[(.bool d)]) ((o.trans s).trans F) rfl rfl ⟨rfl,trivial⟩ ?_;exact⟨rfl,rfl⟩
theorem qaw:Enters prog 46:=enters_of func46 rfl (by kernel_rfl)
theorem z7k{N:Nat}{R:RH}{m:Mach}{P:Value}(aD:VRep (jy false false) R P m){r:(List Int)}(u:om N m=some r):CallP prog 20 #[P] R (fun v R'=>VRep (tSl true (qb .i64)) R' v r):=by
 refine qh (args:=[P]) func20 rfl rfl fun A=>?_;rw [om] at u;refine zk (ug (T:=(jy false false)) rfl rfl rfl aD fun v1 R3 aE h5 h2=>?_);refine zi vs0 (j4 (je rfl xc uy rfl h2 fun v6 h7=>?_));refine qj rfl z3p rfl h7 fun v8 h9=>?_;refine zl (qw rfl underlying28 rfl (ja h9)) ?_
 obtain⟨bF,u⟩:=zb u;refine zl (z7c rfl rfl bF) ?_;obtain⟨am,u⟩:=zb u;refine z7y (T:=(qb .i64)) (m:=(lh .i64 (1:Int) (↑m.rows.length:Int)).toNat) (c:=(lh .i64 (1:Int) (↑m.rows.length:Int)).toNat) rfl underlying32 zo3 (zg rfl am.1) (zg rfl am.1) (Nat.le_refl _) (zdv am) (zdy am) fun d bG aF bH=>?_
 refine zi d (z8 ?_);obtain⟨S,b,u⟩:=zo u;refine qp (γ:=(List Int)×Frag) (rs [4,5,15,31]) (fun g=>[]) (fun g=>[g.2]++A) (fun g R=>S=g.1∧ORep (qb .i64) R g.2 d g.1∧capOf d=g.1.length∧True) ?_ ?_
 refine zk (zi (vi 0) (z8 (zx (jc (γ:=Nat×Int×(List Int)×Frag) (rs [4,5,15,31]) (fun g=>[(4,(vi g.2.1))]) (fun g=>[g.2.2.2]++A) (fun g R=>uu N g.1 g.2.1 g.2.2.1=some S∧ORep (qb .i64) R g.2.2.2 d g.2.2.1∧capOf d=g.2.2.1.length∧True) (fun g=>g.1) (N,0,(mk (lh .i64 (1:Int) (↑m.rows.length:Int)) (0:Int)),bG) prm ⟨b,bH,(aF.trans List.length_replicate.symm),trivial⟩ ?_))))
 clear b;rintro⟨an,p,ao,bI⟩ cB cC aQ ⟨b,ap,U,_⟩;rcases an with _|an;exact qo b;replace b:uu N (an+1) p ao=some S:=b;rw [uu] at b
 refine zt (zk (zh (vi p) (zh d (zl (l6 rfl underlying32 rfl ap) (zl (j6 rfl rfl) (z8 (zu rfl b (fun b=>?_) (fun b=>?_))))))));refine qa ?_;obtain⟨aG,a,b⟩:=zo b
 refine qp (γ:=(List Int)×Frag) (rs [21,31]) (fun g=>[]) (fun g=>[g.2]++A) (fun g R=>aG=g.1∧ORep (qb .i64) R g.2 d g.1∧capOf d=g.1.length∧True) ?_ ?_;refine zx (zk (zh d (zh (vi p) ?_)));obtain⟨aH,a⟩:=zb a;refine ai (i:=p.toNat) rfl ic rfl ap (zg rfl aH.1) (zy aH) fun cD bJ=>?_
 refine z1y (i:=p.toNat) (j:=0) ty3 ap rfl rfl bJ (zy aH) rfl (j5.2 rfl) fun bK aI=>?_;refine j4 (zh (vi p) ?_);obtain⟨cE,bL,a⟩:=zo a;refine jh rfl qat rfl (z8q  bL) fun cF cG E bM=>?_
 refine zl (qw rfl underlying32 rfl (ja bM)) (zl (j6 rfl rfl) (z8 (zu rfl a (fun a=>?_) (fun a=>?_))));refine zm (zh d (zh (vi p) ?_));obtain⟨aJ,a⟩:=zb a;refine ai (i:=p.toNat) rfl ic rfl (aI.mono E) (zg rfl aJ.1) (zy aJ) fun cH bN=>?_
 refine z1y (i:=p.toNat) (j:=0) ty3 (aI.mono E) rfl rfl bN (zy aJ) rfl (j5.2 rfl) fun bO bP=>?_;refine z8 ?_;exact⟨dkt,E,jm,((up (up ao p (-1)) p 0),bO),trivial,prm,(Option.some.inj a).symm,bP,((U.trans List.length_set.symm).trans List.length_set.symm),trivial⟩;refine qa ?_
 exact⟨dkt,E,jm,((up ao p (-1)),bK),trivial,prm,(Option.some.inj a).symm,(aI.mono E),(U.trans List.length_set.symm),trivial⟩;rintro⟨aG,bQ⟩ cI cJ aR ⟨rfl,bR,aS,_⟩;refine zm (zh (vi p) ?_);obtain⟨bS,b⟩:=zb b;refine zl (jg rfl rfl bS) (zi (vi (p+1)) (z8 ?_))
 exact⟨dkt,aR,jm,(an,p+1,aG,bQ),Nat.lt_succ_self _,⟨rfl,trivial⟩,prm,b,bR,aS,trivial⟩;refine jf ?_;exact⟨dkt,aQ,jm,(ao,bI),trivial,prm,(Option.some.inj b).symm,ap,U,trivial⟩;rintro⟨S,bT⟩ cK cL F ⟨rfl,bU,aT,_⟩;obtain⟨V,b,u⟩:=zo u
 refine qp (γ:=(List Int)×Frag) (rs [5,10,31,83]) (fun g=>[]) (fun g=>[g.2]++A) (fun g R=>V=g.1∧ORep (qb .i64) R g.2 d g.1∧capOf d=g.1.length∧True) ?_ ?_
 refine zk (zi (vi 1) (z8 (zx (jc (γ:=Nat×Int×(List Int)×Frag) (rs [5,10,31,83]) (fun g=>[(5,(vi g.2.1))]) (fun g=>[g.2.2.2]++A) (fun g R=>p8 N m g.1 g.2.1 g.2.2.1=some V∧ORep (qb .i64) R g.2.2.2 d g.2.2.1∧capOf d=g.2.2.1.length∧True) (fun g=>g.1) (N,1,S,bT) prm ⟨b,bU,aT,trivial⟩ ?_))))
 clear b;rintro⟨aq,o,G,Q⟩ b3 cM x ⟨b,H,W,_⟩;rcases aq with _|aq;exact qo b;replace b:p8 N m (aq+1) o G=some V:=b;rw [p8] at b
 refine zt (zk (zh (vi o) (zh d (zl (l6 rfl underlying32 rfl H) (zl (zx8 rfl rfl) (z8 (zu rfl b (fun b=>?_) (fun b=>?_))))))));refine qa (zt (zx (zk (zi vs0 (z8 ?_)))));obtain⟨z,a,b⟩:=zo b
 refine qp (γ:=(List Int)×Value×Frag) (rs [6,9,37,67]) (fun g=>[(6,g.2.1)]) (fun g=>[Q,g.2.2]++A) (fun g R=>z=g.1∧ORep (qb .i64) R g.2.2 g.2.1 g.1∧True) ?_ ?_;refine zk (zi (vi 0) (z8 (zx (z2l ?_))))
 refine jc (γ:=Nat×(List Int)×Int×Value×Frag) (rs [6,9,37,67]) (fun g=>[(6,g.2.2.2.1),(7,(vi g.2.2.1))]) (fun g=>[Q,g.2.2.2.2]++A) (fun g R=>ut N m o G g.1 g.2.1 g.2.2.1=some z∧ORep (qb .i64) R g.2.2.2.2 g.2.2.2.1 g.2.1∧True) (fun g=>g.1) (N,[],0,vs0,emp) ⟨[],(pk 1 rfl (pk 0 rfl (List.Perm.refl _)))⟩ ⟨a,(lm (T:=(qb .i64))),trivial⟩ ?_
 clear a;rintro⟨ar,I,k,au,aK⟩ b4 cN q ⟨a,aL,_⟩;rcases ar with _|ar;exact qo a;replace a:ut N m o G (ar+1) I k=some z:=a;rw [ut] at a
 refine zt (zk (zh (vi k) (zh d (zl (l6 rfl underlying32 rfl (H.mono q)) (zl (j6 rfl rfl) (z8 (zu rfl a (fun a=>?_) (fun a=>?_))))))));refine qa ?_;obtain⟨Z,e,a⟩:=zo a
 refine qp (γ:=(List Int)×Value×Frag) (rs [6,7,8,9,43,67]) (fun g=>[(6,g.2.1)]) (fun g=>[Q,g.2.2]++A) (fun g R=>Z=g.1∧ORep (qb .i64) R g.2.2 g.2.1 g.1∧True) ?_ ?_
 refine zx (zk (zi (vi 0) (z8 (zx (jc (γ:=Nat×Int) (rs [6,7,8,9,43,67]) (fun g=>[(6,au),(8,(vi g.2))]) (fun g=>[Q,aK]++A) (fun g R=>xg N m o G I k g.1 g.2=some Z∧True) (fun g=>g.1) (N,0) prm ⟨e,trivial⟩ ?_)))));clear e;rintro⟨M,s⟩ b5 b6 f ⟨e,_⟩;rcases M with _|M
 exact qo e;replace e:xg N m o G I k (M+1) s=some Z:=e;rw [xg] at e;refine zt (zk (jq (v:=(vi s)) rfl (zf rfl) (zqg rfl (bn z4m z5g rfl (h2.mono (((F.trans x).trans q).trans f))) fun b7 aU=>?_)))
 refine jq rfl (nz (kw ty3 rfl aU)) (jq rfl (j6 rfl rfl) (jq (v:=(.bool (decide (s<m.inputs)))) rfl (zf rfl) (qz rfl rfl rfl rfl (fun hB=>ql (v:=d) (zf rfl)) fun b8 aV=>?_)));refine qz rfl rfl rfl rfl (fun hB=>ql (v:=(vi k)) (zf rfl)) fun b9 aW=>?_;obtain⟨ab,e⟩:=zb e
 refine qz rfl rfl rfl rfl (fun hB=>z4r (i:=k.toNat) ic (aV.1 (zn rfl hB)) (H.mono (q.trans f)) (zg (aW.1 (zn rfl hB)) (ab (zn rfl hB)).1) (zy (ab (zn rfl hB)))) fun ca aX=>?_
 refine qz rfl rfl rfl rfl (fun hB=>ql (nz (zay (i:=k.toNat) (j:=0) ty3 (H.mono (q.trans f)) rfl rfl (aX.1 (zn rfl hB)) (zy (ab (zn rfl hB)))))) fun cb aY=>?_;refine qz rfl rfl rfl rfl (fun hB=>ql (j6 (aY.1 (zn rfl hB)) rfl)) fun cc aZ=>?_
 refine jq rfl (ny rfl (fun hb=>(aZ.1 (zn rfl hb))) rfl) (z8 (zu rfl e (fun e=>?_) (fun e=>?_)));refine qa (zt (zx (zt ?_)));obtain⟨a0,a1,e⟩:=zo e;obtain⟨ay,a2,e⟩:=zo e
 refine oh 7 [] [phX P,phX d,phX (vi k),phR (tSl false (qb .i64)) a0,phX (vi s),phX (vi o),phX (.bool ay)] mixed (by kernel_rfl) (bi ⟨zq,zq,zq,bf,zq,zq,zq,trivial⟩) ⟨?_,?_,?_,?_,?_,?_,?_,trivial⟩ fun cd K=>?_;intro l cP w ha hd
 exact za rfl rfl rfl (q8 (u7 z2i rfl (ha 1 rfl) ((h5.mono (((F.trans x).trans q).trans f)).mono w) ((aD.mono ((((aE.trans F).trans x).trans q).trans f)).mono w)));intro l a3 w ha hd;exact za rfl rfl rfl (q8 (zf (ha 3 rfl)));intro l cQ w ha hd;exact za rfl rfl rfl (q8 (zf (ha 7 rfl)))
 rintro l cR w ha ⟨d0,_⟩;have bW:l 58=(vi k):=d0 rfl;exact za rfl rfl rfl (pg (vs:=[(vi k)]) qat (by simp only [List.map,ev,bW]<;>rfl) (z8q  a1) (fun _ _ h=>h));intro l cS w ha hd;exact za rfl rfl rfl (q8 (zf (ha 8 rfl)));intro l cT w ha hd;exact za rfl rfl rfl (q8 (zf (ha 5 rfl)))
 rintro l cU w ha ⟨d0,d1,d2,d3,d4,d5,_⟩;have bX:l 56=P:=d0 rfl;have bY:l 57=d:=d1 rfl;have bZ:l 60=(vi s):=d3 rfl;have b0:l 61=(vi o):=d4 rfl
 exact za rfl rfl rfl (zpm (cs:=[]) (vs:=[P,d,(l 59),(vi s),(vi o)]) (φ:=fun v=>v=(.bool ay)) qaw rfl (by simp only [List.map,ev,bX,bY,bZ,b0]<;>rfl) (fun a3 aM llq=>z8u (((aD.mono ((((aE.trans F).trans x).trans q).trans f)).mono w).mono aM) (Sub.v (B:=(tSl false (qb .i64))) (uh Sub.refl (fun _=>rfl)) (z3o (t:=true) ((zgb 0 rfl ((H.mono (q.trans f)).mono w) aM llq):VRep (yo (qb .i64)) a3 d G) W)) ((d2 rfl).mono aM) a2))
 intro ce a4 cf a5 cg a6 ch ci cj a7 ck a8 cl a9;obtain rfl:=Eq.symm a4;obtain rfl:=Eq.symm a5;obtain rfl:=Eq.symm a6;obtain rfl:=Eq.symm a7;obtain rfl:=Eq.symm a8;obtain rfl:=Eq.symm a9;refine z8 (zu rfl e (fun e=>?_) (fun e=>?_))
 refine zk (zh au (zh (vi k) (sw (T:=(qb .i64)) (X:=([k]:List Int)) (ps:=[(0,(vi k))]) (css:=[[(vi k)]]) rfl underlying32 zo3 rfl rfl (ky ⟨rfl,trivial⟩) rfl rfl (by decide) fun ba cm av bb=>?_)));refine vo (i:=0) rfl bb fun bc ad be=>?_
 have bg:VRep (tSl true (qb .i64)) bc ba ([k]:List Int):=(z3o be av);obtain⟨az,e⟩:=zb e;refine pu (i:=1) (X:=I) (Y:=([k]:List Int)) rfl underlying32 zo3 rfl rfl rfl (aL.mono ((f.trans K).trans ad)) (ja (Sub.v (B:=(tSl false (qb .i64))) (uh Sub.refl (fun _=>rfl)) bg)) az.1 az.2 fun aA bh bj=>?_
 refine zi aA (z8 (jf ?_));exact⟨dkt,((f.trans K).trans ad),jm,((I++([k]:List Int)),aA,bh),⟨rfl,trivial⟩,prm,(Option.some.inj e).symm,bj,trivial⟩;refine qa (zm (zh (vi s) ?_));obtain⟨bk,e⟩:=zb e;refine zl (jg rfl rfl bk) (zi (vi (s+1)) (z8 ?_))
 exact⟨dkt,K,jm,(M,s+1),Nat.lt_succ_self _,⟨rfl,rfl,trivial⟩,prm,e,trivial⟩;refine jf ?_;exact⟨dkt,f,jm,(I,au,aK),⟨rfl,trivial⟩,prm,(Option.some.inj e).symm,(aL.mono f),trivial⟩;rintro⟨Z,bl,bm⟩ cn cZ aN ⟨rfl,bo,_⟩;refine zm (zh (vi k) ?_);obtain⟨bp,a⟩:=zb a
 refine zl (jg rfl rfl bp) (zi (vi (k+1)) (z8 ?_));exact⟨dkt,aN,jm,(ar,Z,k+1,bl,bm),Nat.lt_succ_self _,⟨rfl,rfl,trivial⟩,prm,a,bo,trivial⟩;refine jf ?_;exact⟨dkt,q,jm,(I,au,aK),⟨rfl,trivial⟩,prm,(Option.some.inj a).symm,aL,trivial⟩;rintro⟨z,aO,aw⟩ co c0 ae ⟨rfl,ax,_⟩
 obtain⟨y,a,b⟩:=zo b;refine qp (γ:=(List Int)×Frag) (rs [9,10,67,80]) (fun g=>[]) (fun g=>[g.2,aw]++A) (fun g R=>y=g.1∧ORep (qb .i64) R g.2 d g.1∧capOf d=g.1.length∧True) ?_ ?_
 refine zk (zi (vi 0) (z8 (zx (jc (γ:=Nat×Int×(List Int)×Frag) (rs [9,10,67,80]) (fun g=>[(9,(vi g.2.1))]) (fun g=>[g.2.2.2,aw]++A) (fun g R=>uq N o z g.1 g.2.1 g.2.2.1=some y∧ORep (qb .i64) R g.2.2.2 d g.2.2.1∧capOf d=g.2.2.1.length∧True) (fun g=>g.1) (N,0,G,Q) prm ⟨a,(H.mono ae),W,trivial⟩ ?_))))
 clear a;rintro⟨O,n,af,bq⟩ cp cq C ⟨a,ag,ah,_⟩;rcases O with _|O;exact qo a;replace a:uq N o z (O+1) n af=some y:=a;rw [uq] at a
 refine zt (zk (zh (vi n) (zh aO (zl (l6 rfl underlying32 rfl (ax.mono C)) (zl (j6 rfl rfl) (z8 (zu rfl a (fun a=>?_) (fun a=>?_))))))));refine qa (zt (zx (zm (zh d (zh aO (zh (vi n) ?_))))));obtain⟨aj,a⟩:=zb a
 refine ai (i:=n.toNat) rfl ic rfl (ax.mono C) (zg rfl aj.1) (zy aj) fun cr br=>?_;refine z8p (i:=n.toNat) (j:=1) rfl ty3 (ax.mono C) rfl rfl br (zy aj) fun ct bs=>?_;obtain rfl:=j5.1 bs;refine zh (vi o) ?_;obtain⟨ak,a⟩:=zb a
 refine ai (i:=(ix z n).toNat) rfl ic rfl ag (zg rfl ak.1) (zy ak) fun cu bt=>?_;refine z1y (i:=(ix z n).toNat) (j:=0) ty3 ag rfl rfl bt (zy ak) rfl (j5.2 rfl) fun bu bv=>?_;refine z8 (zm (zh (vi n) ?_));obtain⟨bw,a⟩:=zb a
 refine zl (jg rfl rfl bw) (zi (vi (n+1)) (z8 ?_));exact⟨dkt,(RH.le.refl _),jm,(O,n+1,(up af (ix z n) o),bu),Nat.lt_succ_self _,⟨rfl,trivial⟩,prm,a,bv,(ah.trans List.length_set.symm),trivial⟩;refine jf ?_;exact⟨dkt,C,jm,(af,bq),trivial,prm,(Option.some.inj a).symm,ag,ah,trivial⟩
 rintro⟨y,aB⟩ cv cw L ⟨rfl,aC,al,_⟩;refine zk (zh aO (zl (l6 rfl underlying32 rfl (ax.mono L)) (zl (yu rfl rfl) (z8 (zu rfl b (fun b=>?_) (fun b=>?_))))));refine jf ?_
 exact⟨dkt,((x.trans ae).trans L),jm,(y,aB),trivial,⟨[aw],(pk 1 rfl (pk 0 rfl (List.Perm.refl _)))⟩,(Option.some.inj b).symm,aC,al,trivial⟩;refine qa (zm (zh (vi o) ?_));obtain⟨bx,b⟩:=zb b;refine zl (jg rfl rfl bx) (zi (vi (o+1)) (z8 ?_))
 exact⟨dkt,(ae.trans L),jm,(aq,o+1,y,aB),Nat.lt_succ_self _,⟨rfl,trivial⟩,⟨[aw],(pk 1 rfl (pk 0 rfl (List.Perm.refl _)))⟩,b,aC,al,trivial⟩;refine jf ?_;exact⟨dkt,x,jm,(G,Q),trivial,prm,(Option.some.inj b).symm,H,W,trivial⟩;rintro⟨V,c1⟩ cx c2 bz ⟨rfl,b1,bA,_⟩
 refine zk (zh d (zi d (z8 (il (i:=0) rfl b1 fun bB aP bC=>?_))));have bD:VRep (tSl true (qb .i64)) bB d V:=(z3o bC bA);refine qx ?_;obtain rfl:=Option.some.inj u;refine qd (D:=[]) (J:=[]) (rs:=[.tmp 2]) (vs:=[d]) (((aE.trans F).trans bz).trans aP) rfl rfl ⟨rfl,trivial⟩ ?_;exact⟨rfl,bD⟩
theorem qbu:Enters prog 20:=enters_of func20 rfl (by kernel_rfl)
theorem qba:Enters prog 43:=enters_of func43 rfl (by kernel_rfl)
theorem zbv{N:Nat}(F:Nat): ∀ {R:RH} {m:Mach} {Z:Value} (az:VRep (jy false false) R Z m) {h_:(List Int)} {s:Value} (ao:VRep (tSl false (qb .i64)) R s h_) {now:(List Int)} {f:Value} (P:VRep (tSl false (qb .i64)) R f now) {d:(List Int)} {z:Value} (W:VRep (tSl false (qb .i64)) R z d) {number:Int} {r:(List Sa)} (E:vg N F m h_ now d number=some r),CallP prog 43 #[Z,s,f,z,(vi number)] R (fun v R'=>VRep (tSl false (zz false)) R' v r):=by
  induction F with
  |zero=>intros;rename_i E;exact qo E
  |succ F ih=>
    intro R m Z az h_ s ao now f P d z W number r E
    refine qh (args:=[Z,s,f,z,(vi number)]) func43 rfl rfl fun A=>?_
    rw [vg] at E
    refine zt ?_
    refine zm ?_
    refine ug (T:=(jy false false)) rfl rfl rfl az fun v1 R3 K h5 h2=>?_
    refine zi vs0 ?_
    refine z8 ?_
    refine zt ?_
    refine zm ?_
    refine zl (bg (ps:=[(0,(vi (-1))),(1,(vi (-1)))]) (v:=(.agg #[(vi (-1)),(vi (-1)),vs0])) rfl (fun w=>by kernel_rfl)) ?_
    refine kv rfl q06 fun b6=>?_
    refine jr (i:=0) (vs:=[(vi (-1)),(vi (-1)),vs0]) zlc rfl rfl rfl rfl rfl rfl (qf rfl (qf rfl (qf rfl jv))) ?_
    refine z8 ?_
    obtain⟨o8,a,E⟩:=zo E
    refine qp (γ:=(List Int)×Value×Frag) (rs [12,13,20,31]) (fun g=>[]) (fun g=>[box b6 [(vi (-1)),(vi (-1)),g.2.1] 55,g.2.2]++A) (fun g R=>o8=g.1∧ORep (qb .i64) R g.2.2 g.2.1 g.1∧True) ?_ ?_
    · refine zt ?_
      refine zm ?_
      refine zi (vi 0) ?_
      refine z8 ?_
      refine zx ?_
      refine z2l ?_
      refine jc (γ:=Nat×Int×(List Int)×Value×Frag) (rs [12,13,20,31]) (fun g=>[(12,(vi g.2.1))]) (fun g=>[box b6 [(vi (-1)),(vi (-1)),g.2.2.2.1] 55,g.2.2.2.2]++A) (fun g R=>yc N m g.1 g.2.1 g.2.2.1=some o8∧ORep (qb .i64) R g.2.2.2.2 g.2.2.2.1 g.2.2.1∧True) (fun g=>g.1) (N,0,[],vs0,emp) ⟨[],(pk 1 rfl (pk 0 rfl (List.Perm.refl _)))⟩ ⟨a,(lm (T:=(qb .i64))),trivial⟩ ?_
      clear a
      rintro⟨aO,aD,aP,dw,dx⟩ fJ fK aT ⟨a,bC,_⟩
      rcases aO with _|aO
      · exact qo a
      replace a:yc N m (aO+1) aD aP=some o8:=a;rw [yc] at a
      refine zt ?_
      refine zt ?_
      refine zm ?_
      refine zh (vi aD) ?_
      refine je rfl zby z8e rfl (h2.mono aT) fun fL dy=>?_
      refine qj rfl ty3 rfl dy fun fM dz=>?_
      obtain rfl:=j5.1 dz
      refine zl (j6 rfl rfl) ?_
      refine z8 ?_
      refine zu rfl a (fun a=>?_) (fun a=>?_)
      · refine qa ?_
        refine zt ?_
        refine zx ?_
        refine zm ?_
        refine zl (qg z6u rfl) ?_
        refine zl (qi (i:=0) zcj rfl rfl rfl) ?_
        refine sw (T:=(qb .i64)) (X:=([(-1)]:List Int)) (ps:=[(0,(vi (-1)))]) (css:=[[(vi (-1))]]) rfl underlying32 zo3 rfl rfl (ky ⟨rfl,trivial⟩) rfl rfl (by decide) fun dA fN bp dB=>?_
        refine vo (i:=0) rfl dB fun dC aU dD=>?_
        have dE:VRep (tSl true (qb .i64)) dC dA ([(-1)]:List Int):=(z3o dD bp)
        obtain⟨bD,a⟩:=zb a
        refine pu (i:=1) (X:=aP) (Y:=([(-1)]:List Int)) rfl underlying32 zo3 rfl rfl rfl (bC.mono aU) (ja (Sub.v (B:=(tSl false (qb .i64))) (uh Sub.refl (fun _=>rfl)) dE)) bD.1 bD.2 fun bE bq br=>?_
        refine zl (qg z6u rfl) ?_
        refine jr (i:=0) (vs:=[bE]) zvf rfl rfl (lw br) rfl rfl rfl (qf (z0w br) jv) ?_
        refine z8 ?_
        refine zm ?_
        refine zh (vi aD) ?_
        obtain⟨dF,a⟩:=zb a
        refine zl (jg rfl rfl dF) ?_
        refine zi (vi (aD+1)) ?_
        refine z8 ?_
        exact⟨dkt,aU,jm,(aO,aD+1,(aP++([(-1)]:List Int)),bE,bq),Nat.lt_succ_self _,⟨rfl,trivial⟩,prm,a,br,trivial⟩
      · refine jf ?_
        exact⟨dkt,aT,jm,(aP,dw,dx),trivial,prm,(Option.some.inj a).symm,bC,trivial⟩
    · rintro⟨o8,t,bs⟩ fO R9 k ⟨rfl,bF,_⟩
      refine zt ?_
      refine zt ?_
      refine zm ?_
      refine zh f ?_
      refine zl (qw rfl underlying32 rfl (ja (P.mono (K.trans k)))) ?_
      refine zl (yu rfl rfl) ?_
      refine z8 ?_
      refine zu rfl E (fun E=>?_) (fun E=>?_)
      · refine zt ?_
        refine zm ?_
        refine zh z ?_
        obtain⟨bG,E⟩:=zb E
        refine kg (i:=(0:Int).toNat) rfl ic rfl (ja (W.mono (K.trans k))) (zg rfl bG.1) (zy bG) fun fP dG=>?_
        refine qj rfl ty3 rfl dG fun fQ dH=>?_
        obtain rfl:=j5.1 dH
        refine zl (qg zda rfl) ?_
        refine jr (i:=0) (vs:=[(vi (ix d 0))]) sz3 rfl rfl rfl rfl rfl rfl (qf rfl jv) ?_
        refine z8 ?_
        refine zt ?_
        refine zm ?_
        refine zl (ui (i:=0) q3o zlc rfl rfl rfl rfl) ?_
        refine vo (i:=1) rfl bF fun dI bH dJ=>?_
        have dK:VRep (tSl false (qb .i64)) dI t o8:=(z5v dJ)
        refine sw (T:=(zz false)) (X:=([(⟨(-1),(ix d 0),o8⟩:Sa)]:List Sa)) (ps:=[(0,(.agg #[(vi (-1)),(vi (ix d 0)),t]))]) (css:=[[(vi (-1)),(vi (ix d 0)),t]]) rfl underlying43 q2l rfl rfl (ky ⟨⟨_,_,rfl,rfl,⟨_,_,rfl,rfl,(u6 rfl dK)⟩⟩,trivial⟩) rfl rfl (by decide) fun bt fR bu dL=>?_
        refine zi bt ?_
        refine z8 ?_
        refine il (i:=0) rfl dL fun dM bI dN=>?_
        have dO:VRep (tSl true (zz false)) dM bt ([(⟨(-1),(ix d 0),o8⟩:Sa)]:List Sa):=(z3o dN bu)
        refine qx ?_
        obtain rfl:=Option.some.inj E
        refine qd (D:=[]) (J:=[box b6 [(vi (-1)),(vi (ix d 0)),t] 55]) (rs:=[.tmp 10]) (vs:=[bt]) (((K.trans k).trans bH).trans bI) rfl rfl ⟨rfl,trivial⟩ ?_
        exact⟨rfl,(Sub.v (B:=(tSl false (zz false))) (uh Sub.refl (fun _=>rfl)) dO)⟩
      · refine qa ?_
        refine zt ?_
        refine zm ?_
        refine zi (vi 0) ?_
        refine z8 ?_
        obtain⟨n,a,E⟩:=zo E
        refine qp (γ:=Int) (rs [13,14,40,53]) (fun g=>[(13,(vi g))]) (fun g=>[box b6 [(vi (-1)),(vi (-1)),t] 55,bs]++A) (fun g R=>n=g∧True) ?_ ?_
        · refine zx ?_
          refine jc (γ:=Nat×Int) (rs [13,14,40,53]) (fun g=>[(13,(vi g.2))]) (fun g=>[box b6 [(vi (-1)),(vi (-1)),t] 55,bs]++A) (fun g R=>oq N m h_ now g.1 g.2=some n∧True) (fun g=>g.1) (N,0) prm ⟨a,trivial⟩ ?_
          clear a
          rintro⟨aQ,ac⟩ eA fS U ⟨a,_⟩
          rcases aQ with _|aQ
          · exact qo a
          replace a:oq N m h_ now (aQ+1) ac=some n:=a;rw [oq] at a
          refine zt ?_
          refine zt ?_
          obtain⟨aA,dP,a⟩:=zo a
          obtain⟨bJ,a⟩:=zb a
          obtain⟨bK,dQ,a⟩:=zo a
          refine oh 11 [] [phX Z,phX s,phX f,phX (vi ac),phX s,phX f,phX (vi aA),phP (qb .i64) (ix h_ aA),phX (vi (ix h_ aA)),phX (.bool bK),phX (.bool (!bK))] mixed (by kernel_rfl) (bi ⟨zq,zq,zq,zq,zq,zq,zq,uf,zq,zq,zq,trivial⟩) ⟨?_,?_,?_,?_,?_,?_,?_,?_,?_,?_,?_,trivial⟩ fun fT aV=>?_
          · intro l bL b o hd
            have a5:l 5=v1:=o 5 rfl
            exact za rfl rfl rfl (q8 (u7 z2i rfl a5 ((h5.mono (k.trans U)).mono b) ((az.mono ((K.trans k).trans U)).mono b)))
          · intro l bN b o hd
            have a1:l 1=s:=o 1 rfl
            exact za rfl rfl rfl (q8 (zf a1))
          · intro l bP b o hd
            have a2:l 2=f:=o 2 rfl
            exact za rfl rfl rfl (q8 (zf a2))
          · intro l bR b o hd
            have bv:l 13=(vi ac):=o 13 rfl
            exact za rfl rfl rfl (q8 (zf bv))
          · intro l bS b o hd
            have a1:l 1=s:=o 1 rfl
            exact za rfl rfl rfl (q8 (zf a1))
          · intro l bT b o hd
            have a2:l 2=f:=o 2 rfl
            exact za rfl rfl rfl (q8 (zf a2))
          · rintro l bU b o ⟨L,_⟩
            have dR:l 45=f:=L rfl
            exact za rfl rfl rfl (pg (vs:=[f]) qb0 (by simp only [List.map,ev,dR]<;>rfl) (z9v ((P.mono ((K.trans k).trans U)).mono b) dP) (fun _ _ h=>h))
          · rintro l bV b o ⟨L,d1,_⟩
            have dS:=L rfl
            have dT:=d1 rfl
            exact za rfl rfl rfl (uj (i:=aA.toNat) ic dS (ja ((ao.mono ((K.trans k).trans U)).mono b)) (zg dT bJ.1) (zy bJ))
          · rintro l bW b o ⟨L,_⟩
            have dU:=L rfl
            exact za rfl rfl rfl (yf (jo ty3 rfl dU) (fun _ _ h=>j5.1 h))
          · rintro l bX b o ⟨L,d1,d2,d3,d4,d5,_⟩
            have dY:l 40=Z:=L rfl
            have bq:l 41=s:=d1 rfl
            have dZ:l 42=f:=d2 rfl
            have d6:l 43=(vi ac):=d3 rfl
            have d7:l 48=(vi (ix h_ aA)):=d4 rfl
            exact za rfl rfl rfl (pg (vs:=[Z,s,f,(vi ac),(vi (ix h_ aA))]) qaw (by simp only [List.map,ev,dY,bq,dZ,d6,d7]<;>rfl) (z8u ((az.mono ((K.trans k).trans U)).mono b) ((ao.mono ((K.trans k).trans U)).mono b) ((P.mono ((K.trans k).trans U)).mono b) dQ) (fun _ _ h=>h))
          · rintro l aW b o ⟨L,_⟩
            have d8:=L rfl
            exact za rfl rfl rfl (q8 (z0r d8))
          intro fU d9
          intro fV ea
          intro fW eb
          intro fX ec
          intro fY ed
          intro fZ ee
          intro f0 ef
          intro f1 f2
          intro f3 bY
          intro eB bZ
          intro eC b0
          obtain rfl:=Eq.symm d9
          obtain rfl:=Eq.symm ea
          obtain rfl:=Eq.symm eb
          obtain rfl:=Eq.symm ec
          obtain rfl:=Eq.symm ed
          obtain rfl:=Eq.symm ee
          obtain rfl:=Eq.symm ef
          obtain rfl:=Eq.symm bY
          obtain rfl:=Eq.symm bZ
          obtain rfl:=Eq.symm b0
          refine z8 ?_
          refine zu rfl a (fun a=>?_) (fun a=>?_)
          · refine qa ?_
            refine zx ?_
            refine zm ?_
            refine zh (vi ac) ?_
            obtain⟨b1,a⟩:=zb a
            refine zl (jg rfl rfl b1) ?_
            refine zi (vi (ac+1)) ?_
            refine z8 ?_
            exact⟨dkt,aV,jm,(aQ,ac+1),Nat.lt_succ_self _,⟨rfl,trivial⟩,prm,a,trivial⟩
          · refine jf ?_
            exact⟨dkt,(U.trans aV),jm,ac,⟨rfl,trivial⟩,prm,(Option.some.inj a).symm,trivial⟩
        · rintro n eD f4 C ⟨rfl,_⟩
          refine zt ?_
          refine zm ?_
          refine zh (vi n) ?_
          refine zl (qg z9f rfl) ?_
          refine jr (i:=0) (vs:=[(vi n)]) sz3 rfl rfl rfl rfl rfl rfl (qf rfl jv) ?_
          refine z8 ?_
          refine zt ?_
          refine zm ?_
          refine zi vs0 ?_
          refine z8 ?_
          obtain⟨S,a,E⟩:=zo E
          refine qp (γ:=(List Sa×List Int)×Value×Frag×Frag) (rs [14,19,55,127]) (fun g=>[(14,g.2.1)]) (fun g=>[box b6 [(vi n),(vi (-1)),t] 55,g.2.2.2,g.2.2.1]++A) (fun g R=>S=g.1∧ORep (zz false) R g.2.2.1 g.2.1 g.1.1∧ORep (qb .i64) R g.2.2.2 t g.1.2∧True) ?_ ?_
          · refine zt ?_
            refine zm ?_
            refine zi (vi 0) ?_
            refine z8 ?_
            refine zx ?_
            refine z2l ?_
            refine jc (γ:=Nat×(List Sa)×Int×(List Int)×Value×Frag×Frag) (rs [14,19,55,127]) (fun g=>[(14,g.2.2.2.2.1),(15,(vi g.2.2.1))]) (fun g=>[box b6 [(vi n),(vi (-1)),t] 55,g.2.2.2.2.2.2,g.2.2.2.2.2.1]++A) (fun g R=>y5 N (vg N F) m h_ now d number n g.1 g.2.1 g.2.2.1 g.2.2.2.1=some S∧ORep (zz false) R g.2.2.2.2.2.1 g.2.2.2.2.1 g.2.1∧ORep (qb .i64) R g.2.2.2.2.2.2 t g.2.2.2.1∧True) (fun g=>g.1) (N,[],0,o8,vs0,emp,bs) ⟨[],(pk 1 rfl (pk 1 rfl (pk 0 rfl (List.Perm.refl _))))⟩ ⟨a,(lm (T:=(zz false))),(bF.mono C),trivial⟩ ?_
            clear a
            rintro⟨aq,O,e,V,af,ag,ah⟩ eE eF p ⟨a,ar,au,_⟩
            rcases aq with _|aq
            · exact qo a
            replace a:y5 N (vg N F) m h_ now d number n (aq+1) O e V=some S:=a;rw [y5] at a
            refine zt ?_
            refine zt ?_
            refine zm ?_
            refine zh (vi e) ?_
            refine je rfl zby z8e rfl (h2.mono ((k.trans C).trans p)) fun eG b2=>?_
            refine qj rfl ty3 rfl b2 fun eH b3=>?_
            obtain rfl:=j5.1 b3
            refine zl (j6 rfl rfl) ?_
            refine z8 ?_
            refine zu rfl a (fun a=>?_) (fun a=>?_)
            · refine qa ?_
              obtain⟨av,G,a⟩:=zo a
              refine qp (γ:=(List Int×List Sa)×Frag×Value×Frag) (rs [14,15,16,19,61,127]) (fun g=>[(14,g.2.2.1)]) (fun g=>[box b6 [(vi n),(vi (-1)),t] 55,g.2.1,g.2.2.2]++A) (fun g R=>av=g.1∧ORep (qb .i64) R g.2.1 t g.1.1∧ORep (zz false) R g.2.2.2 g.2.2.1 g.1.2∧True) ?_ ?_
              · refine zx ?_
                refine zt ?_
                refine zm ?_
                refine zi vs0 ?_
                refine zi vs0 ?_
                refine z8 ?_
                obtain⟨aa,M,G⟩:=zo G
                refine qp (γ:=(List Int×List Int)×Value×Frag×Value×Frag) (rs [16,19,61,103]) (fun g=>[(16,g.2.1),(17,g.2.2.2.1)]) (fun g=>[box b6 [(vi n),(vi (-1)),t] 55,ah,ag,g.2.2.1,g.2.2.2.2]++A) (fun g R=>aa=g.1∧ORep (qb .i64) R g.2.2.1 g.2.1 g.1.1∧ORep (qb .i64) R g.2.2.2.2 g.2.2.2.1 g.1.2∧True) ?_ ?_
                · refine zt ?_
                  refine zm ?_
                  refine zi (vi 0) ?_
                  refine z8 ?_
                  refine zx ?_
                  refine z2l ?_
                  refine z2l ?_
                  refine jc (γ:=Nat×(List Int)×(List Int)×Int×Value×Frag×Value×Frag) (rs [16,19,61,103]) (fun g=>[(16,g.2.2.2.2.1),(17,g.2.2.2.2.2.2.1),(18,(vi g.2.2.2.1))]) (fun g=>[box b6 [(vi n),(vi (-1)),t] 55,ah,ag,g.2.2.2.2.2.1,g.2.2.2.2.2.2.2]++A) (fun g R=>wh N m now d n e g.1 g.2.1 g.2.2.1 g.2.2.2.1=some aa∧ORep (qb .i64) R g.2.2.2.2.2.1 g.2.2.2.2.1 g.2.1∧ORep (qb .i64) R g.2.2.2.2.2.2.2 g.2.2.2.2.2.2.1 g.2.2.1∧True) (fun g=>g.1) (N,[],[],0,vs0,emp,vs0,emp) ⟨[],(pk 2 rfl (pk 2 rfl (pk 2 rfl (pk 1 rfl (pk 0 rfl (List.Perm.refl _))))))⟩ ⟨M,(lm (T:=(qb .i64))),(lm (T:=(qb .i64))),trivial⟩ ?_
                  clear M
                  rintro⟨aw,aj,ak,c,ax,aX,aE,aY⟩ eI eJ Q ⟨M,aF,aG,_⟩
                  rcases aw with _|aw
                  · exact qo M
                  replace M:wh N m now d n e (aw+1) aj ak c=some aa:=M;rw [wh] at M
                  refine zt ?_
                  refine zt ?_
                  refine zm ?_
                  refine zh (vi c) ?_
                  refine zh f ?_
                  refine zl (qw rfl underlying32 rfl (ja (P.mono ((((K.trans k).trans C).trans p).trans Q)))) ?_
                  refine zl (j6 rfl rfl) ?_
                  refine z8 ?_
                  refine zu rfl M (fun M=>?_) (fun M=>?_)
                  · refine qa ?_
                    obtain⟨ay,H,M⟩:=zo M
                    refine qp (γ:=(List Int×List Int)×Value×Frag×Value×Frag) (rs [16,18,67,103]) (fun g=>[(16,g.2.1),(17,g.2.2.2.1)]) (fun g=>[box b6 [(vi n),(vi (-1)),t] 55,ah,ag,g.2.2.1,g.2.2.2.2]++A) (fun g R=>ay=g.1∧ORep (qb .i64) R g.2.2.1 g.2.1 g.1.1∧ORep (qb .i64) R g.2.2.2.2 g.2.2.2.1 g.1.2∧True) ?_ ?_
                    · refine zx ?_
                      refine zt ?_
                      refine z4j 14 mixed (by kernel_rfl) (by kernel_rfl) ?_
                      refine z3n (bn xc uy rfl (h2.mono (((k.trans C).trans p).trans Q))) fun eK b4=>?_
                      refine z3n (kw z3p rfl b4) fun eL b5=>?_
                      refine uw (v:=f) (zf rfl) ?_
                      refine uw (v:=(vi c)) (zf rfl) ?_
                      obtain⟨aZ,H⟩:=zb H
                      refine z3n (mh (i:=c.toNat) ic rfl (ja (P.mono ((((K.trans k).trans C).trans p).trans Q))) (zg rfl aZ.1) (zy aZ)) fun eM b7=>?_
                      refine uw (nz (kw ty3 rfl b7)) ?_
                      obtain⟨a0,H⟩:=zb H
                      refine z3n (mh (i:=(ix now c).toNat) zaq rfl (ja b5) (zg rfl a0.1) (zy a0)) fun eN b8=>?_
                      refine z3n (kw za8 rfl b8) fun eO b9=>?_
                      refine uw (v:=(vi n)) (zf rfl) ?_
                      obtain⟨a3,H⟩:=zb H
                      refine z3n (mh (i:=n.toNat) zb5 rfl (ja b9) (zg rfl a3.1) (zy a3)) fun eP ca=>?_
                      refine z3n (bn z5n zhb rfl ca) fun eQ cb=>?_
                      refine uw (nz (kw ty3 rfl cb)) ?_
                      refine uw (v:=(vi e)) (zf rfl) ?_
                      refine uw (yu rfl rfl) ?_
                      intro eR I
                      refine z8 ?_
                      refine zu rfl H (fun H=>?_) (fun H=>?_)
                      · refine zt ?_
                        obtain⟨a4,a6,a7,H⟩:=q3j H
                        let G2:=([(ix (ix m.rows (ix now c)) n).to]:List Int)
                        refine oh 14 [] [phX ax,phP (tSl false (tSl false kEdge)) m.rows,phR (tSl false (tSl false kEdge)) m.rows,phX f,phX (vi c),phP (qb .i64) (ix now c),phX (vi (ix now c)),phP (tSl false kEdge) (ix m.rows (ix now c)),phR (tSl false kEdge) (ix m.rows (ix now c)),phX (vi n),phP kEdge (ix (ix m.rows (ix now c)) n),phP (qb .i64) ((ix (ix m.rows (ix now c)) n).to),phX (vi ((ix (ix m.rows (ix now c)) n).to)),phR (tSl true (qb .i64)) G2] mixed (by kernel_rfl) (bi ⟨zq,uf,bf,zq,zq,uf,zq,uf,bf,zq,uf,uf,zq,bf,trivial⟩) ⟨?_,?_,?_,?_,?_,?_,?_,?_,?_,?_,?_,?_,?_,?_,trivial⟩ fun eS ad=>?_
                        · intro l bL b o hd
                          have bw:l 16=ax:=o 16 rfl
                          exact za rfl rfl rfl (q8 (zf bw))
                        · intro l bN b o hd
                          have a5:l 5=v1:=o 5 rfl
                          exact za rfl rfl rfl (yt xc uy a5 ((h2.mono ((((k.trans C).trans p).trans Q).trans I)).mono b))
                        · rintro l bP b o ⟨L,_⟩
                          have eg:=L rfl
                          exact za rfl rfl rfl (jo z3p rfl eg)
                        · intro l bR b o hd
                          have a2:l 2=f:=o 2 rfl
                          exact za rfl rfl rfl (q8 (zf a2))
                        · intro l bS b o hd
                          have eh:l 18=(vi c):=o 18 rfl
                          exact za rfl rfl rfl (q8 (zf eh))
                        · rintro l bT b o ⟨L,d1,_⟩
                          have ei:=L rfl
                          have ej:=d1 rfl
                          exact za rfl rfl rfl (uj (i:=c.toNat) ic ei (ja ((P.mono (((((K.trans k).trans C).trans p).trans Q).trans I)).mono b)) (zg ej a4.1) (zy a4))
                        · rintro l bU b o ⟨L,_⟩
                          have ek:=L rfl
                          exact za rfl rfl rfl (yf (jo ty3 rfl ek) (fun _ _ h=>j5.1 h))
                        · rintro l bV b o ⟨L,d1,_⟩
                          have el:=L rfl
                          have em:=d1 rfl
                          exact za rfl rfl rfl (uj (i:=(ix now c).toNat) zaq rfl (ja el) (zg em a6.1) (zy a6))
                        · rintro l bW b o ⟨L,_⟩
                          have en:=L rfl
                          exact za rfl rfl rfl (jo za8 rfl en)
                        · intro l bX b o hd
                          have bv:l 13=(vi n):=o 13 rfl
                          exact za rfl rfl rfl (q8 (zf bv))
                        · rintro l aW b o ⟨L,d1,_⟩
                          have eo:=L rfl
                          have ep:=d1 rfl
                          exact za rfl rfl rfl (uj (i:=n.toNat) zb5 rfl (ja eo) (zg ep a7.1) (zy a7))
                        · rintro l eT b o ⟨L,_⟩
                          have eq:=L rfl
                          exact za rfl rfl rfl (yt z0v zbb rfl eq)
                        · rintro l eU b o ⟨L,_⟩
                          have er:=L rfl
                          exact za rfl rfl rfl (yf (jo ty3 rfl er) (fun _ _ h=>j5.1 h))
                        · rintro l eV b o ⟨L,_⟩
                          have es:l 93=(vi ((ix (ix m.rows (ix now c)) n).to)):=L rfl
                          exact za rfl rfl rfl (z5d (T:=(qb .i64)) (X:=G2) (ps:=[(0,(vi ((ix (ix m.rows (ix now c)) n).to)))]) (css:=[[(vi ((ix (ix m.rows (ix now c)) n).to))]]) underlying32 zo3 (by simp only [List.map,ev,es]<;>rfl) rfl (ky ⟨rfl,trivial⟩) rfl rfl (by decide))
                        intro eW cc
                        intro eX eY
                        intro eZ e0
                        intro e1 cd
                        intro e2 ce
                        intro e3 e4
                        intro e5 cf
                        intro e6 e7
                        intro e8 e9
                        intro fa cg
                        intro fb fc
                        intro fd fe
                        intro ff ch
                        intro fg ci
                        obtain rfl:=Eq.symm cc
                        obtain rfl:=Eq.symm cd
                        obtain rfl:=Eq.symm ce
                        obtain rfl:=Eq.symm cf
                        obtain rfl:=Eq.symm cg
                        obtain rfl:=Eq.symm ch
                        obtain⟨a8,H⟩:=zb H
                        refine pu (i:=3) (X:=aj) (Y:=G2) rfl underlying32 zo3 rfl rfl rfl (aF.mono (I.trans ad)) (ja (Sub.v (B:=(tSl false (qb .i64))) (uh Sub.refl (fun _=>rfl)) ci)) a8.1 a8.2 fun a9 cj ck=>?_
                        refine zi a9 ?_
                        refine z8 ?_
                        refine zm ?_
                        refine zh aE ?_
                        refine zh z ?_
                        refine zh (vi c) ?_
                        obtain⟨ba,H⟩:=zb H
                        refine kg (i:=c.toNat) rfl ic rfl (ja (W.mono ((((((K.trans k).trans C).trans p).trans Q).trans I).trans ad))) (zg rfl ba.1) (zy ba) fun fh cl=>?_
                        refine qj rfl ty3 rfl cl fun fi cm=>?_
                        obtain rfl:=j5.1 cm
                        refine sw (T:=(qb .i64)) (X:=([(ix d c)]:List Int)) (ps:=[(0,(vi (ix d c)))]) (css:=[[(vi (ix d c))]]) rfl underlying32 zo3 rfl rfl (ky ⟨rfl,trivial⟩) rfl rfl (by decide) fun cn fj aR co=>?_
                        refine vo (i:=0) rfl co fun cp am cq=>?_
                        have cr:VRep (tSl true (qb .i64)) cp cn ([(ix d c)]:List Int):=(z3o cq aR)
                        obtain⟨bb,H⟩:=zb H
                        refine pu (i:=4) (X:=ak) (Y:=([(ix d c)]:List Int)) rfl underlying32 zo3 rfl rfl rfl (aG.mono ((I.trans ad).trans am)) (ja (Sub.v (B:=(tSl false (qb .i64))) (uh Sub.refl (fun _=>rfl)) cr)) bb.1 bb.2 fun bc cs ct=>?_
                        refine zi bc ?_
                        refine z8 ?_
                        exact⟨dkt,((I.trans ad).trans am),jm,(((aj++G2),(ak++([(ix d c)]:List Int))),a9,cj,bc,cs),⟨rfl,rfl,trivial⟩,prm,(Option.some.inj H).symm,(ck.mono am),ct,trivial⟩
                      · refine qa ?_
                        exact⟨dkt,I,jm,((aj,ak),ax,aX,aE,aY),⟨rfl,rfl,trivial⟩,prm,(Option.some.inj H).symm,(aF.mono I),(aG.mono I),trivial⟩
                    · rintro⟨ay,cu,cv,cw,cx⟩ fk fl bx ⟨rfl,cy,cz,_⟩
                      refine zm ?_
                      refine zh (vi c) ?_
                      obtain⟨cA,M⟩:=zb M
                      refine zl (jg rfl rfl cA) ?_
                      refine zi (vi (c+1)) ?_
                      refine z8 ?_
                      exact⟨dkt,bx,jm,(aw,ay.1,ay.2,c+1,cu,cv,cw,cx),Nat.lt_succ_self _,⟨rfl,rfl,rfl,trivial⟩,prm,M,cy,cz,trivial⟩
                  · refine jf ?_
                    exact⟨dkt,Q,jm,((aj,ak),ax,aX,aE,aY),⟨rfl,rfl,trivial⟩,prm,(Option.some.inj M).symm,aF,aG,trivial⟩
                · rintro⟨aa,ab,cB,al,cC⟩ fm fn q ⟨rfl,be,cD,_⟩
                  refine zt ?_
                  refine zm ?_
                  refine zh ab ?_
                  refine zl (l6 rfl underlying32 rfl be) ?_
                  refine zl (z5a rfl rfl) ?_
                  refine z8 ?_
                  refine zu rfl G (fun G=>?_) (fun G=>?_)
                  · refine zt ?_
                    refine zm ?_
                    refine zl (qg z6u rfl) ?_
                    refine zl (qi (i:=0) zcj rfl rfl rfl) ?_
                    refine zh (vi e) ?_
                    refine zh (vi number) ?_
                    obtain⟨cE,G⟩:=zb G
                    refine zl (jg rfl rfl cE) ?_
                    refine zh af ?_
                    refine zl (l6 rfl underlying43 rfl (ar.mono q)) ?_
                    obtain⟨cF,G⟩:=zb G
                    refine zl (jg rfl rfl cF) ?_
                    obtain⟨aH,G⟩:=zb G
                    refine ai (i:=e.toNat) rfl ic rfl (au.mono q) (zg rfl aH.1) (zy aH) fun fo cG=>?_
                    refine z1y (i:=e.toNat) (j:=1) ty3 (au.mono q) rfl rfl cG (zy aH) rfl (j5.2 rfl) fun cH aI=>?_
                    refine z8 ?_
                    refine il (i:=3) rfl be fun cI x cJ=>?_
                    have cK:VRep (tSl false (qb .i64)) cI ab aa.1:=(z5v cJ)
                    refine il (i:=3) rfl (cD.mono x) fun cL y cM=>?_
                    have cN:VRep (tSl false (qb .i64)) cL al aa.2:=(z5v cM)
                    obtain⟨aJ,G⟩:=zb G
                    obtain⟨aK,cO,G⟩:=zo G
                    refine oh 11 [] [phX af,phX Z,phX s,phX ab,phX al,phX (.pointer (some ⟨b6,2,none⟩)),phX t,phX (vi e),(fun u _=>z5s (qb .i64) t (up V e ((number+1)+(↑O.length:Int))) u e.toNat),phX (vi (ix (up V e ((number+1)+(↑O.length:Int))) e)),phR (tSl false (zz false)) aK] mixed (by kernel_rfl) (bi ⟨zq,zq,zq,zq,zq,zq,zq,zq,(fun _ _ _ _ h=>h),zq,bf,trivial⟩) ⟨?_,?_,?_,?_,?_,?_,?_,?_,?_,?_,?_,trivial⟩ fun fp an=>?_
                    · intro l bL b o hd
                      have et:l 14=af:=o 14 rfl
                      exact za rfl rfl rfl (q8 (zf et))
                    · intro l bN b o hd
                      have a5:l 5=v1:=o 5 rfl
                      exact za rfl rfl rfl (q8 (u7 z2i rfl a5 ((h5.mono (((((k.trans C).trans p).trans q).trans x).trans y)).mono b) ((az.mono ((((((K.trans k).trans C).trans p).trans q).trans x).trans y)).mono b)))
                    · intro l bP b o hd
                      have a1:l 1=s:=o 1 rfl
                      exact za rfl rfl rfl (q8 (zf a1))
                    · intro l bR b o hd
                      have bw:l 16=ab:=o 16 rfl
                      exact za rfl rfl rfl (q8 (zf bw))
                    · intro l bS b o hd
                      have eu:l 17=al:=o 17 rfl
                      exact za rfl rfl rfl (q8 (zf eu))
                    · intro l bT b o hd
                      have ew:l 11=(.pointer (some ⟨b6,0,none⟩)):=o 11 rfl
                      exact za rfl rfl rfl (q8 (qg z6u ew))
                    · rintro l bU b o ⟨L,_⟩
                      have bh:=L rfl
                      exact za rfl rfl rfl (q8 (qi (i:=0) zcj bh rfl rfl))
                    · intro l bV b o hd
                      have ex:l 15=(vi e):=o 15 rfl
                      exact za rfl rfl rfl (q8 (zf ex))
                    · rintro l bW b o ⟨L,d1,_⟩
                      have cP:=L rfl
                      have cQ:=d1 rfl
                      exact za rfl rfl rfl (zai (i:=e.toNat) ic cP ((aI.mono (x.trans y)).mono b) (zg cQ aJ.1) (zy aJ))
                    · rintro l bX b o ⟨L,_⟩
                      have cR:=L rfl
                      exact za rfl rfl rfl (yf (zs1 (i:=e.toNat) (j:=1) ty3 ((aI.mono (x.trans y)).mono b) rfl rfl cR (zy aJ)) (fun _ _ h=>j5.1 h))
                    · rintro l aW b o ⟨L,d1,d2,d3,d4,_⟩
                      have cS:l 116=Z:=L rfl
                      have bj:l 117=s:=d1 rfl
                      have cT:l 118=ab:=d2 rfl
                      have cU:l 119=al:=d3 rfl
                      have cV:l 124=(vi (ix (up V e ((number+1)+(↑O.length:Int))) e)):=d4 rfl
                      exact za rfl rfl rfl (pg (vs:=[Z,s,ab,al,(vi (ix (up V e ((number+1)+(↑O.length:Int))) e))]) qba (by simp only [List.map,ev,cS,bj,cT,cU,cV]<;>rfl) (ih ((az.mono ((((((K.trans k).trans C).trans p).trans q).trans x).trans y)).mono b) ((ao.mono ((((((K.trans k).trans C).trans p).trans q).trans x).trans y)).mono b) ((cK.mono y).mono b) (cN.mono b) cO) (fun _ _ h=>h))
                    intro fq cW
                    intro fr cX
                    intro fs cY
                    intro ft cZ
                    intro fu c0
                    intro fv c1
                    intro fw c2
                    intro fx c3
                    intro fy fz
                    intro fA c4
                    intro fB c5
                    obtain rfl:=Eq.symm cW
                    obtain rfl:=Eq.symm cX
                    obtain rfl:=Eq.symm cY
                    obtain rfl:=Eq.symm cZ
                    obtain rfl:=Eq.symm c0
                    obtain rfl:=Eq.symm c1
                    obtain rfl:=Eq.symm c2
                    obtain rfl:=Eq.symm c3
                    obtain rfl:=Eq.symm c4
                    obtain⟨bk,G⟩:=zb G
                    refine pu (i:=2) (X:=O) (Y:=aK) rfl underlying43 q2l rfl rfl rfl (ar.mono (((q.trans x).trans y).trans an)) (ja c5) bk.1 bk.2 fun bl c6 c7=>?_
                    refine zi bl ?_
                    refine z8 ?_
                    exact⟨dkt,(((q.trans x).trans y).trans an),jm,(((up V e ((number+1)+(↑O.length:Int))),(O++aK)),cH,bl,c6),⟨rfl,trivial⟩,prm,(Option.some.inj G).symm,(aI.mono ((x.trans y).trans an)),c7,trivial⟩
                  · refine qa ?_
                    exact⟨dkt,q,jm,((V,O),ah,af,ag),⟨rfl,trivial⟩,⟨[cB,cC],(pk 3 rfl (pk 3 rfl (pk 0 rfl (pk 0 rfl (pk 0 rfl (List.Perm.refl _))))))⟩,(Option.some.inj G).symm,(au.mono q),(ar.mono q),trivial⟩
              · rintro⟨av,c8,c9,da⟩ fC fD bz ⟨rfl,db,dc,_⟩
                refine zm ?_
                refine zh (vi e) ?_
                obtain⟨dd,a⟩:=zb a
                refine zl (jg rfl rfl dd) ?_
                refine zi (vi (e+1)) ?_
                refine z8 ?_
                exact⟨dkt,bz,jm,(aq,av.2,e+1,av.1,c9,da,c8),Nat.lt_succ_self _,⟨rfl,rfl,trivial⟩,prm,a,dc,db,trivial⟩
            · refine jf ?_
              exact⟨dkt,p,jm,((O,V),af,ag,ah),⟨rfl,trivial⟩,prm,(Option.some.inj a).symm,ar,au,trivial⟩
          · rintro⟨S,bm,bj,bh⟩ fE fF bA ⟨rfl,de,df,_⟩
            refine zt ?_
            refine zm ?_
            refine zl (ui (i:=0) q3o zlc rfl rfl rfl rfl) ?_
            refine vo (i:=1) rfl df fun dg aL dh=>?_
            have di:VRep (tSl false (qb .i64)) dg t S.2:=(z5v dh)
            let G1:=([(⟨n,(-1),S.2⟩:Sa)]:List Sa)
            refine sw (T:=(zz false)) (X:=G1) (ps:=[(0,(.agg #[(vi n),(vi (-1)),t]))]) (css:=[[(vi n),(vi (-1)),t]]) rfl underlying43 q2l rfl rfl (ky ⟨⟨_,_,rfl,rfl,⟨_,_,rfl,rfl,(u6 rfl di)⟩⟩,trivial⟩) rfl rfl (by decide) fun fG fH du dj=>?_
            refine zh bm ?_
            refine vo (i:=2) rfl (de.mono aL) fun dk aM dl=>?_
            have dm:VRep (tSl false (zz false)) dk bm S.1:=(z5v dl)
            obtain⟨bo,E⟩:=zb E
            refine pu (i:=0) (X:=G1) (Y:=S.1) rfl underlying43 q2l rfl rfl rfl (dj.mono aM) (ja dm) bo.1 bo.2 fun aN fI dn=>?_
            refine zi aN ?_
            refine z8 ?_
            refine il (i:=0) rfl dn fun dp bB dq=>?_
            have dr:VRep (tSl false (zz false)) dp aN (G1++S.1):=(z5v dq)
            refine qx ?_
            obtain rfl:=Option.some.inj E
            refine qd (D:=[]) (J:=[box b6 [(vi n),(vi (-1)),t] 55]) (rs:=[.tmp 10]) (vs:=[aN]) ((((((K.trans k).trans C).trans bA).trans aL).trans aM).trans bB) rfl rfl ⟨rfl,trivial⟩ ?_
            exact⟨rfl,dr⟩
theorem zes{N:Nat}{R:RH}{m:Mach}{g:Value}(i:VRep (jy false false) R g m){k:(List Int)}{e:Value}(h:VRep (tSl false (qb .i64)) R e k){now:(List Int)}{b:Value}(f:VRep (tSl false (qb .i64)) R b now){c:(List Int)}{a:Value}(d:VRep (tSl false (qb .i64)) R a c){number:Int}{r:(List Sa)}(j:vg N N m k now c number=some r):CallP prog 43 #[g,e,b,a,(vi number)] R (fun v R'=>VRep (tSl false (zz false)) R' v r):=zbv N i h f d j
theorem ze6{N:Nat}{R:RH}{m:Mach}{t:Value}(j:VRep (jy false false) R t m){r:Sb×Bool}(a:z14 N m=some r):CallP prog 16 #[t] R (fun v R'=> ∃ u0,v= .tuple #[u0,(.bool r.2)]∧VRep (ko false false) R' u0 r.1):=by
 refine qh (args:=[t]) func16 rfl rfl fun A=>?_;rw [z14] at a;refine zk (ug (T:=(jy false false)) rfl rfl rfl j fun v1 R3 h h5 h2=>?_);refine kv rfl zwp fun L=>?_;refine zi (.bool false) (j4 (zl (u7 z2i rfl rfl h5 (j.mono h)) ?_));obtain⟨y8,c9,a⟩:=zo a
 refine jh rfl qbu rfl (z7k (j.mono h) c9) fun n ap d u=>?_;refine zi n (z8 (zt (zk (zh n (zh n (zl (qw rfl underlying32 rfl (ja u)) ?_))))));obtain⟨M,a⟩:=zb a;refine zl (z6q rfl rfl M) ?_;obtain⟨C,a⟩:=zb a
 refine kg (i:=((↑y8.length:Int)-1).toNat) rfl ic rfl (ja u) (zg rfl C.1) (zy C) fun aq O=>?_;refine qj rfl ty3 rfl O fun ar P=>?_;obtain rfl:=j5.1 P;refine zl (j6 rfl rfl) (z8 (zu rfl a (fun a=>?_) (fun a=>?_)))
 refine zk (zl (bg (ps:=[]) (v:=(.agg #[vs0])) rfl (fun w=>by kernel_rfl)) (jr (i:=0) (vs:=[vs0]) z8x rfl rfl rfl rfl rfl rfl (qf rfl jv) ?_));refine zi (.bool false) (z8 (qx ?_));obtain rfl:=Option.some.inj a
 refine qd (D:=[]) (J:=[box L [vs0] 45]) (rs:=[.cell 2 45,.tmp 3]) (vs:=[(.agg #[vs0]),(.bool false)]) (h.trans d) rfl rfl ⟨⟨_,rfl,fun w Q=>z0z (i:=0) Q rfl rfl ze7 z8x rfl rfl⟩,rfl,trivial⟩ ?_
 exact⟨rfl,⟨(.agg #[vs0]),rfl,(⟨_,(u6 (T:=(tSl false (zz false))) rfl z5w),rfl⟩:VRep (ko false false) _ _ (⟨[]⟩:Sb))⟩⟩;refine qa (zk (zi vs0 (z8 ?_)));obtain⟨k,b,a⟩:=zo a
 refine qp (γ:=(List Int)×Value×Frag) (rs [5,7,17,28]) (fun g=>[(5,g.2.1)]) (fun g=>[box L [vs0] 45,g.2.2]++A) (fun g R=>k=g.1∧ORep (qb .i64) R g.2.2 g.2.1 g.1∧True) ?_ ?_;refine zk (zi (vi 0) (z8 (zx (z2l ?_))))
 refine jc (γ:=Nat×(List Int)×Int×Value×Frag) (rs [5,7,17,28]) (fun g=>[(5,g.2.2.2.1),(6,(vi g.2.2.1))]) (fun g=>[box L [vs0] 45,g.2.2.2.2]++A) (fun g R=>ww N m g.1 g.2.1 g.2.2.1=some k∧ORep (qb .i64) R g.2.2.2.2 g.2.2.2.1 g.2.1∧True) (fun g=>g.1) (N,[],0,vs0,emp) ⟨[],(pk 1 rfl (pk 0 rfl (List.Perm.refl _)))⟩ ⟨b,(lm (T:=(qb .i64))),trivial⟩ ?_
 clear b;rintro⟨o,p,c,E,S⟩ au av q ⟨b,F,_⟩;rcases o with _|o;exact qo b;replace b:ww N m (o+1) p c=some k:=b;rw [ww] at b;refine zt (zk (zh (vi c) (je rfl xc uy rfl (h2.mono (d.trans q)) fun aw U=>?_)))
 refine qj rfl z3p rfl U fun ax V=>?_;refine zl (qw rfl underlying28 rfl (ja V)) (zl (j6 rfl rfl) (z8 (zu rfl b (fun b=>?_) (fun b=>?_))))
 refine qa (zt (zx (zm (zh E (zh (vi c) (sw (T:=(qb .i64)) (X:=([c]:List Int)) (ps:=[(0,(vi c))]) (css:=[[(vi c)]]) rfl underlying32 zo3 rfl rfl (ky ⟨rfl,trivial⟩) rfl rfl (by decide) fun W ay x Z=>?_))))));refine vo (i:=0) rfl Z fun aa s ab=>?_
 have ac:VRep (tSl true (qb .i64)) aa W ([c]:List Int):=(z3o ab x);obtain⟨G,b⟩:=zb b;refine pu (i:=1) (X:=p) (Y:=([c]:List Int)) rfl underlying32 zo3 rfl rfl rfl (F.mono s) (ja (Sub.v (B:=(tSl false (qb .i64))) (uh Sub.refl (fun _=>rfl)) ac)) G.1 G.2 fun H ad ae=>?_
 refine zi H (z8 (zm (zh (vi c) ?_)));obtain⟨af,b⟩:=zb b;refine zl (jg rfl rfl af) (zi (vi (c+1)) (z8 ?_));exact⟨dkt,s,jm,(o,(p++([c]:List Int)),c+1,H,ad),Nat.lt_succ_self _,⟨rfl,rfl,trivial⟩,prm,b,ae,trivial⟩;refine jf ?_
 exact⟨dkt,q,jm,(p,E,S),⟨rfl,trivial⟩,prm,(Option.some.inj b).symm,F,trivial⟩;rintro⟨k,y,az⟩ aA aB e ⟨rfl,ag,_⟩;refine zk (zl (u7 z2i rfl rfl (h5.mono (d.trans e)) (j.mono ((h.trans d).trans e))) (zh n (zh y (zh y (vo (i:=1) rfl ag fun ah l ai=>?_)))))
 have I:VRep (tSl false (qb .i64)) ah y k:=(z5v ai);obtain⟨aj,ak,a⟩:=zo a;refine jh rfl qba rfl (zes (j.mono (((h.trans d).trans e).trans l)) (Sub.v (B:=(tSl false (qb .i64))) (uh Sub.refl (fun _=>rfl)) (u.mono (e.trans l))) I I ak) fun f aC K z=>?_
 refine zl (z7j [(0,(.agg #[f]))] (ps:=[(0,f)]) (v:=(.agg #[f])) rfl (by simp only [List.map_cons,List.map_nil,z4b z];rfl) (fun w=>by kernel_rfl)) (jr (i:=0) (vs:=[f]) z8x rfl rfl rfl rfl rfl rfl (qf (z6d z) jv) ?_);refine zi (.bool true) (z8 (qx ?_));obtain rfl:=Option.some.inj a
 refine qd (D:=[]) (J:=[box L [f] 45]) (rs:=[.cell 2 45,.tmp 3]) (vs:=[(.agg #[f]),(.bool true)]) ((((h.trans d).trans e).trans l).trans K) rfl rfl ⟨⟨_,rfl,fun w Q=>z0z (i:=0) Q rfl rfl ze7 z8x rfl rfl⟩,rfl,trivial⟩ ?_
 exact⟨rfl,⟨(.agg #[f]),rfl,(⟨_,(u6 (T:=(tSl false (zz false))) rfl z),rfl⟩:VRep (ko false false) _ _ (⟨aj⟩:Sb))⟩⟩
theorem qeg:Enters prog 16:=enters_of func16 rfl (by kernel_rfl)
theorem zb9{N:Nat}{R:RH}{x:Sj}{aO:Value}(aP:VRep (z1x false false) R aO x){r:Bool}(b:z08 N x=some r):CallP prog 4 #[aO] R (fun v R'=>v=(.bool r)):=by
 refine qh (args:=[aO]) func4 rfl rfl fun A=>?_;rw [z08] at b;refine zk (ug (T:=(z1x false false)) rfl rfl rfl aP fun v1 R3 Z h5 h2=>?_);refine zi (.bool false) (j4 (zl (u7 qe8 rfl rfl h5 (aP.mono Z)) ?_));obtain⟨o,c7,b⟩:=zo b
 refine jh rfl en8 rfl (zeb (aP.mono Z) c7) fun v8 eb Q h9=>?_;refine kv rfl ztb fun P=>?_;obtain⟨K,rfl,S⟩:=zgw h9;refine jr (i:=0) (vs:=[(vi o.inputs),(vi o.outputs),K]) z9z rfl rfl rfl rfl rfl rfl (qf rfl (qf rfl (qf (z6d S) jv))) ?_
 refine j4 (zl (ui (i:=0) zf8 z9z rfl rfl rfl rfl) ?_);obtain⟨a,cd,b⟩:=zo b;refine jh rfl qao rfl (zf7 (⟨_,⟨_,_,rfl,rfl,⟨_,_,rfl,rfl,(u6 rfl S)⟩⟩,rfl⟩:VRep (jy false false) _ _ (⟨o.inputs,o.outputs,o.rows⟩:Mach)) cd) fun ed ee y ce=>?_;obtain⟨cf,rfl,cg⟩:=ce
 refine zh (.tuple #[cf,(vi a.2)]) (zl (jl rfl rfl) (zl (jl rfl rfl) (kv rfl zwp fun I=>?_)));obtain⟨q,rfl,L⟩:=z7e cg;refine jr (i:=0) (vs:=[q]) z8x rfl rfl rfl rfl rfl rfl (qf (z6d L) jv) ?_;refine zi (vi a.2) (j4 (zl (ui (i:=1) zf8 z9z rfl rfl rfl rfl) ?_))
 obtain⟨ar,ch,b⟩:=zo b;refine jh rfl qeg rfl (ze6 (⟨_,⟨_,_,rfl,rfl,⟨_,_,rfl,rfl,(u6 rfl (S.mono y))⟩⟩,rfl⟩:VRep (jy false false) _ _ (⟨o.inputs,o.outputs,o.rows⟩:Mach)) ch) fun ef eg f ci=>?_;obtain⟨cj,rfl,ck⟩:=ci
 refine zh (.tuple #[cj,(.bool ar.2)]) (zl (jl rfl rfl) (zl (jl rfl rfl) (kv rfl zwp fun au=>?_)));obtain⟨aa,rfl,aX⟩:=z7e ck;refine jr (i:=0) (vs:=[aa]) z8x rfl rfl rfl rfl rfl rfl (qf (z6d aX) jv) ?_;refine zi (.bool ar.2) (j4 (zl (ui (i:=2) zf8 z9z rfl rfl rfl rfl) ?_))
 obtain⟨U,cl,b⟩:=zo b;refine jh rfl q9h rfl (za4 (⟨_,⟨_,_,rfl,rfl,⟨_,_,rfl,rfl,(u6 rfl (S.mono (y.trans f)))⟩⟩,rfl⟩:VRep (jy false false) _ _ (⟨o.inputs,o.outputs,o.rows⟩:Mach)) cl) fun eh ei j cm=>?_;obtain⟨aQ,rfl,cn⟩:=cm
 refine zh (.tuple #[aQ,(vi U.2)]) (zl (jl rfl rfl) (zl (jl rfl rfl) (zi aQ (zi (vi U.2) (z8 (zt (zk (zh (.bool ar.2) (zl (z0r rfl) (z8 (zu rfl b (fun b=>?_) (fun b=>?_))))))))))))
 refine zk (jq (v:=(vi a.2)) rfl (zf rfl) (jq rfl (yu rfl rfl) (jq (v:=(.bool (decide (a.2=7)))) rfl (zf rfl) (qz rfl rfl rfl rfl (fun m=>ql (v:=(.pointer (some ⟨I,0,none⟩))) (qg fo rfl)) fun ej co=>?_))))
 refine qz rfl rfl rfl rfl (fun m=>ql (v:=q) (qi (i:=1) zn9 (co.1 (zn rfl m)) rfl rfl)) fun ek cp=>?_;refine qz rfl rfl rfl rfl (fun m=>ql (qw rfl underlying43 (cp.1 (zn rfl m)) (ja (L.mono (f.trans j))))) fun el cq=>?_;refine qz rfl rfl rfl rfl (fun m=>ql (yu (cq.1 (zn rfl m)) rfl)) fun em cr=>?_
 refine jq rfl (ny rfl (fun V=>(cr.1 (zn rfl V))) rfl) (jq (v:=(.bool ((decide (a.2=7))&&(decide ((↑a.1.fA.length:Int)=0))))) rfl (zf rfl) (qz rfl rfl rfl rfl (fun m=>ql (v:=(vi U.2)) (zf rfl)) fun en ct=>?_));refine qz rfl rfl rfl rfl (fun m=>ql (yu (ct.1 (zn rfl m)) rfl)) fun eo cu=>?_
 refine jq rfl (ny rfl (fun V=>(cu.1 (zn rfl V))) rfl) ?_;let G2:=(((decide (a.2=7))&&(decide ((↑a.1.fA.length:Int)=0)))&&(decide (U.2=7)));refine jq (v:=(.bool G2)) rfl (zf rfl) ?_;obtain⟨aY,cv,b⟩:=zo b
 refine z6s rfl rfl rfl rfl (fun m=>pg (vs:=[]) qaa rfl ((by have ab:=(z3z cv (zn rfl m));exact z8v  ab)) (fun _ _ h=>h)) fun cw cx aZ aR=>?_;replace aR:phG (true&&(G2==true)) (phX (.bool (aY.getD default))) cw cx:=aR;refine jq rfl (ny rfl (fun V=>(aR.1 (zn rfl V))) rfl) ?_
 let G1:=((((decide (a.2=7))&&(decide ((↑a.1.fA.length:Int)=0)))&&(decide (U.2=7)))&&(aY.getD default));refine jq (v:=(.bool G1)) rfl (l9 rfl) (z8 (qx ?_));obtain rfl:=Option.some.inj b
 refine qd (D:=[]) (J:=[box au [aa] 45,box I [q] 45,box P [(vi o.inputs),(vi o.outputs),K] 30]) (rs:=[.tmp 2]) (vs:=[(.bool G1)]) (((((Z.trans Q).trans y).trans f).trans j).trans aZ) rfl rfl ⟨rfl,trivial⟩ ?_;exact⟨rfl,rfl⟩
 refine qa (zt (zk (jq (v:=(vi a.2)) rfl (zf rfl) (jq rfl (xm rfl rfl) (jq (v:=(.bool (decide (a.2≠0)))) rfl (zf rfl) (qz rfl rfl rfl rfl (fun m=>ql (v:=(.agg #[q])) (ui (i:=1) ze7 z8x rfl rfl rfl rfl)) fun ep cy=>?_))))))
 refine qz rfl rfl rfl rfl (fun m=>ql (v:=(.agg #[aa])) (ui (i:=0) ze7 z8x rfl rfl rfl rfl)) fun eq cz=>?_;obtain⟨ai,cA,b⟩:=zo b
 refine z6s rfl rfl rfl rfl (fun m=>pg (vs:=[(.agg #[q]),(.agg #[aa])]) qbs (za9 (cy.1 (zn rfl m)) (za9 (cz.1 (zn rfl m)) rfl)) ((by have ab:=(z3z cA (zn rfl m));exact z9o (⟨_,(u6 (T:=(tSl false (zz false))) rfl (Sub.v (B:=(tSl false (zz false))) (uh Sub.refl (fun _=>rfl)) (L.mono (f.trans j)))),rfl⟩:VRep (ko false false) _ _ (⟨a.1.fA⟩:Sb)) (⟨_,(u6 (T:=(tSl false (zz false))) rfl (aX.mono j)),rfl⟩:VRep (ko false false) _ _ (⟨ar.1.fA⟩:Sb)) ab)) (fun _ _ h=>h)) fun cB cC d aS=>?_
 replace aS:phG (true&&((decide (a.2≠0))==false)) (phX (.bool (ai.getD default))) cB cC:=aS;refine qz rfl rfl rfl rfl (fun m=>ql (z0r (aS.1 (zn rfl m)))) fun cP a0=>?_
 refine jq rfl (r9 rfl rfl (fun V=>(a0.1 (zn rfl V)))) (jq (v:=(.bool ((decide (a.2≠0))||(!(ai.getD default))))) rfl (zf rfl) (qz rfl rfl rfl rfl (fun m=>ql (v:=(.pointer (some ⟨I,0,none⟩))) (qg fo rfl)) fun cQ a1=>?_))
 refine qz rfl rfl rfl rfl (fun m=>ql (v:=q) (qi (i:=1) zn9 (a1.1 (zn rfl m)) rfl rfl)) fun cR a2=>?_;refine qz rfl rfl rfl rfl (fun m=>ql (zt9 rfl underlying43 (a2.1 (zn rfl m)) (L.mono ((f.trans j).trans d)))) fun cS a3=>?_
 refine qz rfl rfl rfl rfl (fun m=>ql (v:=(.pointer (some ⟨I,0,none⟩))) (qg fo rfl)) fun cT a4=>?_;refine qz rfl rfl rfl rfl (fun m=>ql (v:=q) (qi (i:=1) zn9 (a4.1 (zn rfl m)) rfl rfl)) fun cU a5=>?_
 refine qz rfl rfl rfl rfl (fun m=>ql (qw rfl underlying43 (a5.1 (zn rfl m)) (ja (L.mono ((f.trans j).trans d))))) fun cV a6=>?_;refine qz rfl rfl rfl rfl (fun m=>ql (xm (a3.1 (zn rfl m)) (a6.1 (zn rfl m)))) fun cW a7=>?_
 refine jq rfl (r9 rfl rfl (fun V=>(a7.1 (zn rfl V)))) (jq (v:=(.bool (((decide (a.2≠0))||(!(ai.getD default)))||(decide ((↑a.1.fA.length:Int)≠(↑a.1.fA.length:Int)))))) rfl (zf rfl) (qz rfl rfl rfl rfl (fun m=>ql (v:=(.agg #[(vi o.inputs),(vi o.outputs),K])) (ui (i:=2) zf8 z9z rfl rfl rfl rfl)) fun cX a8=>?_))
 refine qz rfl rfl rfl rfl (fun m=>ql (v:=(.agg #[q])) (ui (i:=1) ze7 z8x rfl rfl rfl rfl)) fun cY a9=>?_;obtain⟨aj,ba,b⟩:=zo b
 refine z6s rfl rfl rfl rfl (fun m=>pg (vs:=[(.agg #[(vi o.inputs),(vi o.outputs),K]),(.agg #[q])]) qe9 (za9 (a8.1 (zn rfl m)) (za9 (a9.1 (zn rfl m)) rfl)) ((by have ab:=(z3z ba (zn rfl m));exact znn (⟨_,⟨_,_,rfl,rfl,⟨_,_,rfl,rfl,(u6 rfl (S.mono (((y.trans f).trans j).trans d)))⟩⟩,rfl⟩:VRep (jy false false) _ _ (⟨o.inputs,o.outputs,o.rows⟩:Mach)) (⟨_,(u6 (T:=(tSl false (zz false))) rfl (Sub.v (B:=(tSl false (zz false))) (uh Sub.refl (fun _=>rfl)) (L.mono ((f.trans j).trans d)))),rfl⟩:VRep (ko false false) _ _ (⟨a.1.fA⟩:Sb)) ab)) (fun _ _ h=>h)) fun bb bc n ak=>?_
 replace ak:phG (true&&((((decide (a.2≠0))||(!(ai.getD default)))||(decide ((↑a.1.fA.length:Int)≠(↑a.1.fA.length:Int))))==false)) (phX (vi (aj.getD default))) bb bc:=ak;refine qz rfl rfl rfl rfl (fun m=>ql (xm (ak.1 (zn rfl m)) rfl)) fun cZ be=>?_
 refine jq rfl (r9 rfl rfl (fun V=>(be.1 (zn rfl V)))) (jq (v:=(.bool ((((decide (a.2≠0))||(!(ai.getD default)))||(decide ((↑a.1.fA.length:Int)≠(↑a.1.fA.length:Int))))||(decide ((aj.getD default)≠0))))) rfl (zf rfl) (qz rfl rfl rfl rfl (fun m=>ql (v:=(vi U.2)) (zf rfl)) fun c0 bg=>?_))
 refine qz rfl rfl rfl rfl (fun m=>ql (yu (bg.1 (zn rfl m)) rfl)) fun c1 bh=>?_;refine qz rfl rfl rfl rfl (fun m=>ql (v:=(.bool (decide (U.2=0)))) (zf (bh.1 (zn rfl m)))) fun c2 O=>?_;refine zkj rfl rfl rfl O (fun hG m=>ql (v:=(.agg #[q])) (ui (i:=1) ze7 z8x rfl rfl rfl rfl)) fun c3 bj=>?_
 obtain⟨bk,bl,b⟩:=zo b
 refine q7q rfl rfl rfl O (fun hG m=>pg (vs:=[(.agg #[q])]) q8g (za9 (bj.1 (zn hG m)) rfl) ((by have ab:=(z3z bl (zn hG m));exact za2 (⟨_,(u6 (T:=(tSl false (zz false))) rfl (Sub.v (B:=(tSl false (zz false))) (uh Sub.refl (fun _=>rfl)) (L.mono (((f.trans j).trans d).trans n)))),rfl⟩:VRep (ko false false) _ _ (⟨a.1.fA⟩:Sb)) ab)) (fun _ _ h=>h)) fun bm bo e al=>?_
 replace al:phG ((true&&(((((decide (a.2≠0))||(!(ai.getD default)))||(decide ((↑a.1.fA.length:Int)≠(↑a.1.fA.length:Int))))||(decide ((aj.getD default)≠0)))==false))&&((decide (U.2=0))==true)) (phX (vi (bk.getD default))) bm bo:=al
 refine zkj rfl rfl rfl ((jb zq) _ _ _ e O) (fun hG m=>ql (v:=aQ) (zf rfl)) fun c4 bp=>?_;refine zkj rfl rfl rfl ((jb zq) _ _ _ e O) (fun hG m=>ql (qw rfl underlying32 (bp.1 (zn hG m)) (ja (cn.mono ((d.trans n).trans e))))) fun c5 bq=>?_
 refine zkj rfl rfl rfl ((jb zq) _ _ _ e O) (fun hG m=>ql (z5a (al.1 (zn hG m)) (bq.1 (zn hG m)))) fun c6 br=>?_;refine qz rfl rfl rfl rfl (fun m=>ql (ny (((jb zq) _ _ _ e O).1 (zn rfl m)) (fun V=>(br.1 (zn (zn rfl m) V))) rfl)) fun c8 bs=>?_
 refine jq rfl (r9 rfl rfl (fun V=>(bs.1 (zn rfl V)))) (z8 (zu rfl b (fun b=>?_) (fun b=>?_)));refine zk (zi (.bool false) (z8 (qx ?_)));obtain rfl:=Option.some.inj b
 refine qd (D:=[]) (J:=[box au [aa] 45,box I [q] 45,box P [(vi o.inputs),(vi o.outputs),K] 30]) (rs:=[.tmp 2]) (vs:=[(.bool false)]) (((((((Z.trans Q).trans y).trans f).trans j).trans d).trans n).trans e) rfl rfl ⟨rfl,trivial⟩ ?_;exact⟨rfl,rfl⟩;refine qa (zk (zl (ui (i:=2) zf8 z9z rfl rfl rfl rfl) ?_))
 obtain⟨E,bt,b⟩:=zo b;refine jh rfl qbu rfl (z7k (⟨_,⟨_,_,rfl,rfl,⟨_,_,rfl,rfl,(u6 rfl (S.mono (((((y.trans f).trans j).trans d).trans n).trans e)))⟩⟩,rfl⟩:VRep (jy false false) _ _ (⟨o.inputs,o.outputs,o.rows⟩:Mach)) bt) fun am c9 u ay=>?_;refine zi am (z8 (zt (zt ?_)))
 obtain⟨az,bu,b⟩:=zo b;obtain⟨bv,aA,b⟩:=q3m b
 refine oh 9 [] [phX (.agg #[q]),phX (vi az),phX am,phX am,phX (vi (↑E.length:Int)),phX (vi ((↑E.length:Int)-1)),phP (qb .i64) (ix E ((↑E.length:Int)-1)),phX (vi (ix E ((↑E.length:Int)-1))),phX (.bool (decide (az≠(ix E ((↑E.length:Int)-1)))))] mixed (by kernel_rfl) (bi ⟨zq,zq,zq,zq,zq,zq,uf,zq,zq,trivial⟩) ⟨?_,?_,?_,?_,?_,?_,?_,?_,?_,trivial⟩ fun da w=>?_
 intro l cD p F hd;exact za rfl rfl rfl (q8 (ui (i:=1) ze7 z8x (F 4 rfl) rfl rfl rfl));rintro l cE p F ⟨G,_⟩;have cF:l 88=(.agg #[q]):=G rfl
 exact za rfl rfl rfl (pg (vs:=[(.agg #[q])]) q8g (by simp only [List.map,ev,cF]<;>rfl) (za2 (⟨_,(u6 (T:=(tSl false (zz false))) rfl (Sub.v (B:=(tSl false (zz false))) (uh Sub.refl (fun _=>rfl)) ((L.mono (((((f.trans j).trans d).trans n).trans e).trans u)).mono p))),rfl⟩:VRep (ko false false) _ _ (⟨a.1.fA⟩:Sb)) bu) (fun _ _ h=>h))
 intro l cG p F hd;exact za rfl rfl rfl (q8 (zf (F 10 rfl)));intro l cH p F hd;exact za rfl rfl rfl (q8 (zf (F 10 rfl)));rintro l cI p F ⟨G,_⟩;exact za rfl rfl rfl (q8 (qw rfl underlying32 (G rfl) (ja (ay.mono p))));rintro l cJ p F ⟨G,_⟩;exact za rfl rfl rfl (q8 (z6q (G rfl) rfl bv))
 rintro l cK p F ⟨G,d1,_⟩;exact za rfl rfl rfl (uj (i:=((↑E.length:Int)-1).toNat) ic (G rfl) (ja (ay.mono p)) (zg (d1 rfl) aA.1) (zy aA));rintro l cL p F ⟨G,_⟩;exact za rfl rfl rfl (yf (jo ty3 rfl (G rfl)) (fun _ _ h=>j5.1 h));rintro l cM p F ⟨G,d1,_⟩
 exact za rfl rfl rfl (q8 (xm (G rfl) (d1 rfl)));intro db bw dc bx dd bz de bA df bB dg bC dh di dj bD dk bE;obtain rfl:=Eq.symm bw;obtain rfl:=Eq.symm bx;obtain rfl:=Eq.symm bz;obtain rfl:=Eq.symm bA;obtain rfl:=Eq.symm bB;obtain rfl:=Eq.symm bC;obtain rfl:=Eq.symm bD;obtain rfl:=Eq.symm bE
 refine z8 (zu rfl b (fun b=>?_) (fun b=>?_));refine zk (zi (.bool false) (z8 (qx ?_)));obtain rfl:=Option.some.inj b
 refine qd (D:=[]) (J:=[box au [aa] 45,box I [q] 45,box P [(vi o.inputs),(vi o.outputs),K] 30]) (rs:=[.tmp 2]) (vs:=[(.bool false)]) (((((((((Z.trans Q).trans y).trans f).trans j).trans d).trans n).trans e).trans u).trans w) rfl rfl ⟨rfl,trivial⟩ ?_;exact⟨rfl,rfl⟩;refine qa ?_;obtain⟨an,s,b⟩:=zo b
 refine qp (γ:=Unit) (rs [2,3,11,18,97,155]) (fun g=>[]) (fun g=>[]++A) (fun g R=>an=Ex.go g∧True) ?_ ?_
 refine zk (zi (vi 0) (z8 (zx (jc (γ:=Nat×Int) (rs [2,3,11,18,97,155]) (fun g=>[(11,(vi g.2))]) (fun g=>[box P [(vi o.inputs),(vi o.outputs),K] 30,box I [q] 45]++A) (fun g R=>vv N o a g.1 g.2=some an∧True) (fun g=>g.1) (N,0) ⟨[box au [aa] 45],(pk 0 rfl (pk 1 rfl (pk 0 rfl (List.Perm.refl _))))⟩ ⟨s,trivial⟩ ?_))))
 clear s;rintro⟨af,C⟩ dl dm z ⟨s,_⟩;rcases af with _|af;exact qo s;replace s:vv N o a (af+1) C=some an:=s;rw [vv] at s
 refine zt (zk (zh (vi C) (zl (qg xc rfl) (zl (qi (i:=0) zsk rfl rfl rfl) (zl (qw rfl underlying28 rfl (ja (S.mono ((((((((y.trans f).trans j).trans d).trans n).trans e).trans u).trans w).trans z)))) (zl (j6 rfl rfl) (z8 (zu rfl s (fun s=>?_) (fun s=>?_)))))))))
 refine qa (zt (zx (zk (zi vs0 (j4 (zh (vi C) (zi (vi C) (j4 (zi (vi 0) (z8 ?_))))))))));obtain⟨W,t,s⟩:=zo s
 refine qp (γ:=(List Int)×Value×Frag) (rs [12,16,105,142]) (fun g=>[(12,g.2.1)]) (fun g=>[box P [(vi o.inputs),(vi o.outputs),K] 30,box I [q] 45,g.2.2]++A) (fun g R=>W=g.1∧ORep (qb .i64) R g.2.2 g.2.1 g.1∧True) ?_ ?_;refine zx (z2l ?_)
 refine jc (γ:=Nat×(List Int)×Int×Int×Value×Frag) (rs [12,16,105,142]) (fun g=>[(12,g.2.2.2.2.1),(13,(vi g.2.2.1)),(14,(vi g.2.2.2.1))]) (fun g=>[box P [(vi o.inputs),(vi o.outputs),K] 30,box I [q] 45,g.2.2.2.2.2]++A) (fun g R=>vz N o a g.1 g.2.1 g.2.2.1 g.2.2.2.1=some W∧ORep (qb .i64) R g.2.2.2.2.2 g.2.2.2.2.1 g.2.1∧True) (fun g=>g.1) (N,[],C,0,vs0,emp) ⟨[],(pk 1 rfl (pk 1 rfl (pk 0 rfl (List.Perm.refl _))))⟩ ⟨t,(lm (T:=(qb .i64))),trivial⟩ ?_
 clear t;rintro⟨ag,ah,k,c,aB,bF⟩ dn dp M ⟨t,aC,_⟩;rcases ag with _|ag;exact qo t;replace t:vz N o a (ag+1) ah k c=some W:=t;rw [vz] at t;refine zt (zk (zl (qg fo rfl) (zl (qi (i:=1) zn9 rfl rfl rfl) (zh (vi c) ?_))))
 obtain⟨aD,t⟩:=zb t;refine kg (i:=c.toNat) rfl ze2 rfl (ja (L.mono ((((((((f.trans j).trans d).trans n).trans e).trans u).trans w).trans z).trans M))) (zg rfl aD.1) (zy aD) fun dq bG=>?_;refine je rfl z9f ll rfl bG fun dr bH=>?_;refine qj rfl ty3 rfl bH fun ds bI=>?_
 obtain rfl:=j5.1 bI;refine zl (xm rfl rfl) (z8 (zu rfl t (fun t=>?_) (fun t=>?_)));refine qa (zx (zt ?_));obtain⟨aE,aF,aG,t⟩:=q3j t
 refine oh 14 [⟨13,[.int .i64 0,.int .i64 0],57⟩] [phX (.pointer (some ⟨P,2,none⟩)),phX K,phX (vi k),phP (tSl false kEdge) (ix o.rows k),phR (tSl false kEdge) (ix o.rows k),phX (.pointer (some ⟨I,0,none⟩)),phX q,phX (vi c),phP (zz false) (ix a.1.fA c),phP (qb .i64) ((ix a.1.fA c).fB),phX (vi ((ix a.1.fA c).fB)),phP kEdge (ix (ix o.rows k) ((ix a.1.fA c).fB)),phX (z0l (ix (ix o.rows k) ((ix a.1.fA c).fB))),phB] mixed (by kernel_rfl) (bi ⟨zq,zq,zq,uf,bf,zq,zq,zq,uf,uf,zq,uf,zq,zlj,trivial⟩) ⟨?_,?_,?_,?_,?_,?_,?_,?_,?_,?_,?_,?_,?_,?_,trivial⟩ fun dt ac=>?_
 intro l cD p F hd;exact za rfl rfl rfl (q8 (qg xc (F 3 rfl)));rintro l cE p F ⟨G,_⟩;exact za rfl rfl rfl (q8 (qi (i:=0) zsk (G rfl) rfl rfl));intro l cG p F hd;exact za rfl rfl rfl (q8 (zf (F 13 rfl)));rintro l cH p F ⟨G,d1,_⟩
 exact za rfl rfl rfl (uj (i:=k.toNat) zaq (G rfl) (ja ((S.mono (((((((((y.trans f).trans j).trans d).trans n).trans e).trans u).trans w).trans z).trans M)).mono p)) (zg (d1 rfl) aE.1) (zy aE));rintro l cI p F ⟨G,_⟩;exact za rfl rfl rfl (jo za8 rfl (G rfl));intro l cJ p F hd
 exact za rfl rfl rfl (q8 (qg fo (F 4 rfl)));rintro l cK p F ⟨G,_⟩;exact za rfl rfl rfl (q8 (qi (i:=1) zn9 (G rfl) rfl rfl));intro l cL p F hd;exact za rfl rfl rfl (q8 (zf (F 14 rfl)));rintro l cM p F ⟨G,d1,_⟩
 exact za rfl rfl rfl (uj (i:=c.toNat) ze2 (G rfl) (ja ((L.mono ((((((((f.trans j).trans d).trans n).trans e).trans u).trans w).trans z).trans M)).mono p)) (zg (d1 rfl) aF.1) (zy aF));rintro l er p F ⟨G,_⟩;exact za rfl rfl rfl (yt z9f ll rfl (G rfl));rintro l du p F ⟨G,_⟩
 exact za rfl rfl rfl (yf (jo ty3 rfl (G rfl)) (fun _ _ h=>j5.1 h));rintro l dv p F ⟨G,d1,_⟩;exact za rfl rfl rfl (uj (i:=((ix a.1.fA c).fB).toNat) zb5 rfl (ja (G rfl)) (zg (d1 rfl) aG.1) (zy aG));rintro l dw p F ⟨G,_⟩
 exact za rfl rfl rfl (yf (jo zf1 rfl (G rfl)) (fun _ _ h=>fq.1 h));intro l dx p F hd;exact zcc rfl rfl rfl rfl zen;intro dy bJ dz bK dA bL dB dC dD dE dF bM dG bN dH bO dI dJ dK dL dM bP dN dO dP bQ dQ bR;obtain rfl:=Eq.symm bJ;obtain rfl:=Eq.symm bK;obtain rfl:=Eq.symm bL
 obtain rfl:=Eq.symm bM;obtain rfl:=Eq.symm bN;obtain rfl:=Eq.symm bO;obtain rfl:=Eq.symm bP;obtain rfl:=Eq.symm bQ;obtain⟨aH,rfl⟩:=bR
 refine jr (i:=0) (vs:=[(vi ((ix (ix o.rows k) ((ix a.1.fA c).fB)).to)),(vi ((ix (ix o.rows k) ((ix a.1.fA c).fB)).out))]) zbf rfl rfl rfl rfl rfl rfl (qf rfl (qf rfl jv)) ?_;refine j4 (zh aB (zl (qg z5n rfl) (zl (qi (i:=0) ag3 rfl rfl rfl) ?_)))
 let G3:=([(ix (ix o.rows k) ((ix a.1.fA c).fB)).out]:List Int)
 refine sw (T:=(qb .i64)) (X:=G3) (ps:=[(0,(vi ((ix (ix o.rows k) ((ix a.1.fA c).fB)).out)))]) (css:=[[(vi ((ix (ix o.rows k) ((ix a.1.fA c).fB)).out))]]) rfl underlying32 zo3 rfl rfl (ky ⟨rfl,trivial⟩) rfl rfl (by decide) fun bS dR ax bT=>?_;refine vo (i:=0) rfl bT fun bU ad bV=>?_
 have bW:VRep (tSl true (qb .i64)) bU bS G3:=(z3o bV ax);obtain⟨aI,t⟩:=zb t;refine pu (i:=3) (X:=ah) (Y:=G3) rfl underlying32 zo3 rfl rfl rfl (aC.mono (ac.trans ad)) (ja (Sub.v (B:=(tSl false (qb .i64))) (uh Sub.refl (fun _=>rfl)) bW)) aI.1 aI.2 fun aJ bX bY=>?_
 refine zi aJ (j4 (zl (qg z0v rfl) (zl (qi (i:=0) ag3 rfl rfl rfl) (zi (vi ((ix (ix o.rows k) ((ix a.1.fA c).fB)).to)) (z8 (z4j 10 mixed (by kernel_rfl) (by kernel_rfl) ?_))))));refine uw (v:=(.pointer (some ⟨I,0,none⟩))) (qg fo rfl) ?_;refine uw (v:=q) (qi (i:=2) zn9 rfl rfl rfl) ?_
 refine uw (v:=(vi c)) (zf rfl) ?_;obtain⟨aK,t⟩:=zb t;refine z3n (mh (i:=c.toNat) ze2 rfl (ja (L.mono ((((((((((f.trans j).trans d).trans n).trans e).trans u).trans w).trans z).trans M).trans ac).trans ad))) (zg rfl aK.1) (zy aK)) fun dS bZ=>?_
 refine z3n (bn z6u z1j rfl bZ) fun dT b0=>?_;refine z3n (kw zcb rfl b0) fun dU b1=>?_;refine uw (v:=(.pointer (some ⟨aH,1,none⟩))) (qg z5n rfl) ?_;refine uw (v:=(vi ((ix (ix o.rows k) ((ix a.1.fA c).fB)).out))) (qi (i:=0) ag3 rfl rfl rfl) ?_;obtain⟨aL,t⟩:=zb t
 refine z3n (mh (i:=((ix (ix o.rows k) ((ix a.1.fA c).fB)).out).toNat) ic rfl (ja b1) (zg rfl aL.1) (zy aL)) fun dV b2=>?_;refine uw (nz (kw ty3 rfl b2)) ?_;intro dW ao;refine zi (vi (ix ((ix a.1.fA c).fC) ((ix (ix o.rows k) ((ix a.1.fA c).fB)).out))) (z8 ?_)
 exact⟨dkt,((ac.trans ad).trans ao),jm,(ag,(ah++G3),(ix (ix o.rows k) ((ix a.1.fA c).fB)).to,(ix ((ix a.1.fA c).fC) ((ix (ix o.rows k) ((ix a.1.fA c).fB)).out)),aJ,bX),Nat.lt_succ_self _,⟨rfl,rfl,rfl,trivial⟩,⟨[box aH [(vi ((ix (ix o.rows k) ((ix a.1.fA c).fB)).to)),(vi ((ix (ix o.rows k) ((ix a.1.fA c).fB)).out))] 57],(List.Perm.refl _)⟩,t,(bY.mono ao),trivial⟩
 refine jf ?_;exact⟨dkt,M,jm,(ah,aB,bF),⟨rfl,trivial⟩,prm,(Option.some.inj t).symm,aC,trivial⟩;rintro⟨W,ap,aM⟩ dX dY ae ⟨rfl,b3,_⟩;refine zk (zl (ui (i:=1) ze7 z8x rfl rfl rfl rfl) (zh ap ?_));obtain⟨H,b4,s⟩:=zo s
 refine zdr (cs:=[]) (vs:=[(.agg #[q]),ap]) (φ:=fun v=>v= .tuple #[(vi H.1),(vi H.2)]) rfl q5q rfl rfl (fun b5 aq aU=>z5q (⟨_,(u6 (T:=(tSl false (zz false))) rfl (Sub.v (B:=(tSl false (zz false))) (uh Sub.refl (fun _=>rfl)) ((L.mono ((((((((f.trans j).trans d).trans n).trans e).trans u).trans w).trans z).trans ae)).mono aq))),rfl⟩:VRep (ko false false) _ _ (⟨a.1.fA⟩:Sb)) (z5v ((zgb 2 rfl b3 aq aU):VRep (yo (qb .i64)) b5 ap W)) b4) fun dZ b6=>?_
 obtain rfl:=b6
 refine zh (.tuple #[(vi H.1),(vi H.2)]) (zl (jl rfl rfl) (zl (jl rfl rfl) (zi (vi H.1) (zi (vi H.2) (j4 (jq (v:=(vi H.1)) rfl (zf rfl) (jq (v:=(vi C)) rfl (zf rfl) (jq rfl (xm rfl rfl) (jq (v:=(.bool (decide (H.1≠C)))) rfl (zf rfl) (qz rfl rfl rfl rfl (fun m=>ql (v:=(vi H.2)) (zf rfl)) fun d2 b7=>?_))))))))))
 refine qz rfl rfl rfl rfl (fun m=>ql (xm (b7.1 (zn rfl m)) rfl)) fun d3 b8=>?_;refine jq rfl (r9 rfl rfl (fun V=>(b8.1 (zn rfl V)))) (z8 (zu rfl s (fun s=>?_) (fun s=>?_)));refine zk (zi (.bool false) (z8 (qx ?_)));replace b:=z2q s b;obtain rfl:=Option.some.inj b
 refine qd (D:=[]) (J:=[box P [(vi o.inputs),(vi o.outputs),K] 30,box I [q] 45,aM]) (rs:=[.tmp 2]) (vs:=[(.bool false)]) (((((((((((Z.trans Q).trans y).trans f).trans j).trans d).trans n).trans e).trans u).trans w).trans z).trans ae) rfl rfl ⟨rfl,trivial⟩ ?_;exact⟨rfl,rfl⟩
 refine qa (zm (zh (vi C) ?_));obtain⟨b9,s⟩:=zb s;refine zl (jg rfl rfl b9) (zi (vi (C+1)) (z8 ?_));exact⟨dkt,ae,jm,(af,C+1),Nat.lt_succ_self _,⟨rfl,trivial⟩,⟨[aM],(pk 2 rfl (pk 0 rfl (pk 0 rfl (List.Perm.refl _))))⟩,s,trivial⟩;refine jf ?_
 exact⟨dkt,z,jm,(),trivial,⟨[box P [(vi o.inputs),(vi o.outputs),K] 30,box I [q] 45],(List.Perm.refl _)⟩,(Option.some.inj s).symm,trivial⟩;rintro d4 d5 d6 aV ⟨rfl,_⟩;replace b:=z4h b;refine zk ?_;obtain⟨aN,ca,b⟩:=zo b;refine jh rfl qaa rfl (z8v  ca) fun d7 d8 aW cb=>?_
 obtain rfl:=cb;refine zi (.bool aN) (z8 (qx ?_));obtain rfl:=Option.some.inj b;refine qd (D:=[]) (J:=[]) (rs:=[.tmp 2]) (vs:=[(.bool aN)]) (((((((((((Z.trans Q).trans y).trans f).trans j).trans d).trans n).trans e).trans u).trans w).trans aV).trans aW) rfl rfl ⟨rfl,trivial⟩ ?_;exact⟨rfl,rfl⟩
end GV
end Go.Proofs.Ytnnobdkjgafdmaa
