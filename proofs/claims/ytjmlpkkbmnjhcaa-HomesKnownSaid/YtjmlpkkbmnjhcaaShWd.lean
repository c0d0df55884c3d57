import Derived.Test.YtjmlpkkbmnjhcaaShWc
import Derived.Test.YtjmlpkkbmnjhcaaRows
set_option linter.unusedVariables false
set_option linter.unusedSimpArgs false
set_option linter.unusedSectionVars false
namespace Go.Proofs.Ytjmlpkkbmnjhcaa
namespace GV
open _root_.Go.Proofs.Try
open Go.IntWalk
set_option maxRecDepth 100000
set_option maxHeartbeats 20000000
theorem zym:Enters prog 94:=enters_of func94 rfl (by kernel_rfl)
theorem z3w{N:Nat}{R:RH}{data:List Int}{d:Value}{fB:Frag}(Z:ORep (qa .u16) R fB d data){a:Int}{b:Int}{pivot:Int}{r:Int×Bool×List Int}(P:ma N data a b pivot=some r):CallG prog 95 #[d,(vi a),(vi b),(vi pivot)] R [fB] (fun v R' O'=> ∃ aO,v= .tuple #[(vi r.1),(.bool r.2.1)]∧O'=[aO]∧ORep (qa .u16) R' aO d r.2.2):=by
 refine dn (args:=[d,(vi a),(vi b),(vi pivot)]) func95 rfl rfl fun A=>?_;rw [ma] at P;refine zu (zi (vi 0) (zi (.bool false) (za (q8 ?_))));obtain⟨g1,g2,g3,g4,P⟩:=zpx P
 refine z0i [13,15] [(fun es=>phX d),(fun es=>phX (vi a)),(fun es=>phX d),(fun es=>phX (vi pivot)),(fun es=>phX d),(fun es=>phX (vi pivot)),(fun es=>(fun u _=>yw (qa .u16) d data u pivot.toNat)),(fun es=>phX (.int .u16 (ix data pivot))),(fun es=>phX d),(fun es=>phX (vi a)),(fun es=>(fun u _=>yw (qa .u16) d data u a.toNat)),(fun es=>phX (.int .u16 (ix data a))),(fun es=>(fun u _=>yw (qa .u16) d data u a.toNat)),(fun es=>(fun _ _=>True)),(fun es=>(fun u _=>yw (qa .u16) d data u pivot.toNat)),(fun es=>(fun _ _=>True))] (fun fl es R O=>(fl=[false,false]∧O.Perm ([fB]++A)∧True)∨(fl=[true,false]∧ ∃ (fA:Frag),O.Perm ([fA]++A)∧ORep (qa .u16) R fA d (up data a (ix data pivot))∧True)∨(fl=[true,true]∧ ∃ (fA:Frag),O.Perm ([fA]++A)∧ORep (qa .u16) R fA d (up (up data a (ix data pivot)) pivot (ix data a))∧True)) mixed (by kernel_rfl) ⟨(zk zf),(zk zf),(zk zf),(zk zf),(zk zf),(zk zf),(zk (fun _ _ _ _ h=>h)),(zk zf),(zk zf),(zk zf),(zk (fun _ _ _ _ h=>h)),(zk zf),(zk (fun _ _ _ _ h=>h)),(fun _ _ _ _ _ h=>h),(zk (fun _ _ _ _ h=>h)),(fun _ _ _ _ _ h=>h),trivial⟩ (by rintro fl es R R' O k (⟨rfl,s,_⟩|⟨rfl,fA,s,c,_⟩|⟨rfl,fA,s,c,_⟩);exact(.inl ⟨rfl,s,trivial⟩);exact(.inr (.inl ⟨rfl,fA,s,(c.mono k),trivial⟩));exact(.inr (.inr ⟨rfl,fA,s,(c.mono k),trivial⟩))) ⟨(fun _ _ _ _ _ h=>h),(fun _ _ _ _ _ h=>h),(fun _ _ _ _ _ h=>h),(fun _ _ _ _ _ h=>h),(fun _ _ _ _ _ h=>h),(fun _ _ _ _ _ h=>h),(fun _ _ _ _ _ h=>h),(fun _ _ _ _ _ h=>h),(fun _ _ _ _ _ h=>h),(fun _ _ _ _ _ h=>h),(fun _ _ _ _ _ h=>h),(fun _ _ _ _ _ h=>h),(fun _ _ _ _ _ h=>h),(fun _ _ _ _ _ h=>h),(fun _ _ _ _ _ h=>h),(fun _ _ _ _ _ h=>h),trivial⟩ (fun es=> .inl ⟨rfl,(List.Perm.refl _),trivial⟩) ⟨?_,?_,?_,?_,?_,?_,?_,?_,?_,?_,?_,?_,?_,?_,?_,?_,trivial⟩ fun R5 bQ=>?_
 intro l az fl O k m hd x y;exact zl (z8 (m 0 rfl));intro l aA fl O k m hd x y;exact zl (z8 (m 1 rfl));intro l aB fl O k m hd x y;obtain⟨n,_⟩:=hd;exact zl (z8 (m 0 rfl));intro l aC fl O k m hd x y;obtain⟨n,_⟩:=hd;exact zl (z8 (m 3 rfl));intro l aD fl O k m hd x y;exact zl (z8 (m 0 rfl))
 intro l aE fl O k m hd x y;exact zl (z8 (m 3 rfl));intro l aF fl O k m hd x y;obtain⟨n,t,_⟩:=hd;exact qj (i:=pivot.toNat) xm (n rfl) (Z.mono k) (zm (t rfl) g1.1) (zy g1);intro l aG fl O k m hd x y;obtain⟨n,_⟩:=hd;rcases y with⟨rfl,s,_⟩|⟨rfl,fA,s,c,_⟩|⟨rfl,fA,s,c,_⟩
 exact uo s (j4 (jf (i:=pivot.toNat) (j:=0) gu (Z.mono k) rfl rfl (n rfl) (zy g1)) (fun _ _ h=>qb.1 h));exact uz x (by kernel_rfl);exact uz x (by kernel_rfl);intro l aH fl O k m hd x y;exact zl (z8 (m 0 rfl));intro l aI fl O k m hd x y;exact zl (z8 (m 1 rfl));intro l ae fl O k m hd x y
 obtain⟨n,t,_⟩:=hd;exact qj (i:=a.toNat) xm (n rfl) (Z.mono k) (zm (t rfl) g2.1) (zy g2);intro l af fl O k m hd x y;obtain⟨n,_⟩:=hd;rcases y with⟨rfl,s,_⟩|⟨rfl,fA,s,c,_⟩|⟨rfl,fA,s,c,_⟩
 exact uo s (j4 (jf (i:=a.toNat) (j:=0) gu (Z.mono k) rfl rfl (n rfl) (zy g2)) (fun _ _ h=>qb.1 h));exact uz x (by kernel_rfl);exact uz x (by kernel_rfl);intro l T fl O k m hd x y;obtain⟨n,t,X,d3,d4,d5,d6,d7,d8,d9,aa,ab,ac,ad,_⟩:=hd
 exact qj (i:=a.toNat) xm (n rfl) (Z.mono k) (zm (t rfl) g3.1) (zy g3);intro l ag fl O k m hd x hf y;obtain⟨n,t,X,d3,d4,d5,d6,d7,d8,d9,aa,ab,ac,ad,_⟩:=hd;rcases y with⟨rfl,s,_⟩|⟨rfl,fA,s,c,_⟩|⟨rfl,fA,s,c,_⟩;refine vv s ?_
 refine Eff.mono (uf (i:=a.toNat) (j:=0) gu (Z.mono k) rfl rfl (n rfl) (zy g3) (t rfl) (qb.2 rfl)) ?_;rintro v R' O' hle' ⟨rfl,f,rfl,ho⟩;exact⟨trivial,.inr (.inl ⟨rfl,f,(List.Perm.refl _),ho,trivial⟩)⟩;cases hf;cases hf;intro l am fl O k m hd x y;obtain⟨n,t,X,d3,d4,d5,d6,d7,d8,d9,aa,ab,ac,ad,ax,ay,_⟩:=hd
 exact qj (i:=pivot.toNat) xm (n rfl) (Z.mono k) (zm (t rfl) g4.1) (zy g4);intro l aP fl O k m hd x hf y;obtain⟨n,t,X,d3,d4,d5,d6,d7,d8,d9,aa,ab,ac,ad,ax,ay,bs,_⟩:=hd;rcases y with⟨rfl,s,_⟩|⟨rfl,fA,s,c,_⟩|⟨rfl,fA,s,c,_⟩;exact uz x (by kernel_rfl);refine vv s ?_
 refine Eff.mono (uf (i:=pivot.toNat) (j:=0) gu c rfl rfl (z0d (n rfl)) (by rw [up,List.length_set];exact zy g4) (t rfl) (qb.2 rfl)) ?_;rintro v R' O' hle' ⟨rfl,f,rfl,ho⟩;exact⟨trivial,.inr (.inr ⟨rfl,f,(List.Perm.refl _),ho,trivial⟩)⟩;cases hf
 intro v7 v8 v9 gp gq gr gs gt gv gw gx gy gz gA c6 c7 c8 c9 da db gB dc dd de gC df gD gE;rintro dv (⟨e,_⟩|⟨e,_⟩|⟨_,aM,s,W,_⟩);cases e;cases e;refine⟨[],_,s,?_⟩;replace W:ORep (qa .u16) R5 aM d (up (up data a (ix data pivot)) pivot (ix data a)):=W;obtain rfl:=Eq.symm c6;obtain rfl:=Eq.symm c7;obtain rfl:=Eq.symm c8
 obtain rfl:=Eq.symm c9;obtain rfl:=Eq.symm da;obtain rfl:=Eq.symm db;obtain rfl:=Eq.symm dc;obtain rfl:=Eq.symm dd;obtain rfl:=Eq.symm de;obtain rfl:=Eq.symm df;refine qo (zg (vi a) ?_);obtain⟨dg,P⟩:=ze P;refine zx (qx rfl rfl dg) (zg (vi b) ?_);obtain⟨dh,P⟩:=ze P
 refine zx (ul rfl rfl dh) (zi (vi (a+1)) (zi (vi (b-1)) (za ?_)));obtain⟨E,q,P⟩:=zt P;refine qz (γ:=Int) (rs [10,11,30,46]) (fun g=>[(10,(vi g))]) (fun g=>[aM]++A) (fun g R=>E=g∧True) ?_ ?_
 refine qd (je (γ:=Nat×Int) (rs [10,11,30,46]) (fun g=>[(10,(vi g.2))]) (fun g=>[aM]++A) (fun g R=>wz N data a b pivot g.1 g.2=some E∧True) (fun g=>g.1) (N,a+1) prm ⟨q,trivial⟩ ?_);clear q;rintro⟨bt,Q⟩ gF gG aJ ⟨q,_⟩;rcases bt with _|bt;exact j3 q
 replace q:wz N data a b pivot (bt+1) Q=some E:=q;rw [wz] at q;refine q8 (q8 ?_);obtain⟨bA,bB,q⟩:=zqa q;obtain⟨bC,di,q⟩:=zt q;let G1:=(true&&((decide (Q≤(b-1)))==true))
 refine o5 14 [] [phX (vi Q),phX (vi (b-1)),phX (.bool (decide (Q≤(b-1)))),phX (.bool (decide (Q≤(b-1)))),phG G1 (phX d),phG G1 (phX (vi Q)),phG G1 ((fun u _=>yw (qa .u16) d (up (up data a (ix data pivot)) pivot (ix data a)) u Q.toNat)),phG G1 (phX (.int .u16 (ix (up (up data a (ix data pivot)) pivot (ix data a)) Q))),phG G1 (phX d),phG G1 (phX (vi a)),phG G1 ((fun u _=>yw (qa .u16) d (up (up data a (ix data pivot)) pivot (ix data a)) u a.toNat)),phG G1 (phX (.int .u16 (ix (up (up data a (ix data pivot)) pivot (ix data a)) a))),phG G1 (phX (.bool (bC.getD default))),phX (.bool ((decide (Q≤(b-1)))&&(bC.getD default)))] mixed (by kernel_rfl) (pu ⟨zf,zf,zf,zf,(qp zf),(qp zf),(qp (fun _ _ _ _ h=>h)),(qp zf),(qp zf),(qp zf),(qp (fun _ _ _ _ h=>h)),(qp zf),(qp zf),zf,trivial⟩) ⟨?_,?_,?_,?_,?_,?_,?_,?_,?_,?_,?_,?_,?_,?_,trivial⟩ fun gH bv=>?_
 intro l az k m hd;exact zh rfl rfl rfl (zl (z8 (m 10 rfl)));intro l aA k m hd;exact zh rfl rfl rfl (zl (z8 (m 11 rfl)));rintro l aB k m ⟨n,t,_⟩;exact zh rfl rfl rfl (zl (z2h (n rfl) (t rfl)));rintro l aC k m ⟨n,_⟩;exact zh rfl rfl rfl (zl (z8 (n rfl)));rintro l aD k m ⟨n,_⟩
 exact zw (Gj:=true) (Bj:=decide (Q≤(b-1))) rfl rfl rfl (ji (n rfl)) rfl (fun I z=>zl (z8 (m 0 rfl)));rintro l aE k m ⟨n,_⟩;exact zw (Gj:=true) (Bj:=decide (Q≤(b-1))) rfl rfl rfl (ji (n rfl)) rfl (fun I z=>zl (z8 (m 10 rfl)));rintro l aF k m ⟨n,t,X,_⟩
 exact zw (Gj:=true) (Bj:=decide (Q≤(b-1))) rfl rfl rfl (ji (X rfl)) rfl (fun I z=>qj (i:=Q.toNat) xm (show l 34=d from(n rfl).1 (zq rfl z)) ((W.mono aJ).mono k) (zm (show l 35=(vi Q) from(t rfl).1 (zq rfl z)) (bA (zq I z)).1) (zy (bA (zq I z))));rintro l aG k m ⟨n,t,_⟩
 exact zw (Gj:=true) (Bj:=decide (Q≤(b-1))) rfl rfl rfl (ji (t rfl)) rfl (fun I z=>j4 (jf (i:=Q.toNat) (j:=0) gu ((W.mono aJ).mono k) rfl rfl ((n rfl).1 (zq rfl z)) (zy (bA (zq I z)))) (fun _ _ h=>qb.1 h));rintro l aH k m ⟨n,_⟩
 exact zw (Gj:=true) (Bj:=decide (Q≤(b-1))) rfl rfl rfl (ji (n rfl)) rfl (fun I z=>zl (z8 (m 0 rfl)));rintro l aI k m ⟨n,_⟩;exact zw (Gj:=true) (Bj:=decide (Q≤(b-1))) rfl rfl rfl (ji (n rfl)) rfl (fun I z=>zl (z8 (m 1 rfl)));rintro l ae k m ⟨n,t,X,_⟩
 exact zw (Gj:=true) (Bj:=decide (Q≤(b-1))) rfl rfl rfl (ji (X rfl)) rfl (fun I z=>qj (i:=a.toNat) xm (show l 38=d from(n rfl).1 (zq rfl z)) ((W.mono aJ).mono k) (zm (show l 39=(vi a) from(t rfl).1 (zq rfl z)) (bB (zq I z)).1) (zy (bB (zq I z))));rintro l af k m ⟨n,t,_⟩
 exact zw (Gj:=true) (Bj:=decide (Q≤(b-1))) rfl rfl rfl (ji (t rfl)) rfl (fun I z=>j4 (jf (i:=a.toNat) (j:=0) gu ((W.mono aJ).mono k) rfl rfl ((n rfl).1 (zq rfl z)) (zy (bB (zq I z)))) (fun _ _ h=>qb.1 h));rintro l T k m ⟨n,t,X,d3,_⟩
 have bR:phG G1 (phX (.int .u16 (ix (up (up data a (ix data pivot)) pivot (ix data a)) Q))) (l 37) T:=n rfl;have bS:phG G1 (phX (.int .u16 (ix (up (up data a (ix data pivot)) pivot (ix data a)) a))) (l 41) T:=t rfl
 exact zw (Gj:=true) (Bj:=decide (Q≤(b-1))) rfl rfl rfl (ji (X rfl)) rfl (fun I z=>yh (vs:=[(.int .u16 (ix (up (up data a (ix data pivot)) pivot (ix data a)) Q)),(.int .u16 (ix (up (up data a (ix data pivot)) pivot (ix data a)) a))]) zc2 (by simp only [List.map,ev,(show l 37=(.int .u16 (ix (up (up data a (ix data pivot)) pivot (ix data a)) Q)) from bR.1 (zq rfl z)),(show l 41=(.int .u16 (ix (up (up data a (ix data pivot)) pivot (ix data a)) a)) from bS.1 (zq rfl z))]<;>rfl) ((by have aN:=(r9 di (zq I z));exact yl  aN)) (fun _ _ h=>h))
 rintro l ag k m ⟨n,t,_⟩;exact zh rfl rfl rfl (zl (xk (n rfl) (fun hb=>(show l 42=(.bool (bC.getD default)) from(t rfl).1 (zq rfl hb))) rfl));intro gI dj gJ dk gK dl gL dm gM gN gO gP gQ gR gS gT gU gV gW gX gY gZ g0 g5 g6 g7 g8 dp;obtain rfl:=Eq.symm dj;obtain rfl:=Eq.symm dk;obtain rfl:=Eq.symm dl;obtain rfl:=Eq.symm dm
 obtain rfl:=Eq.symm dp;refine za (q9 rfl q (fun q=>?_) (fun q=>?_));refine qc (qd (zz (zg (vi Q) ?_)));obtain⟨dq,q⟩:=ze q;refine zx (qx rfl rfl dq) (zi (vi (Q+1)) (za ?_));exact⟨dkt,bv,jo,(bt,Q+1),Nat.lt_succ_self _,⟨rfl,trivial⟩,prm,q,trivial⟩;refine jr ?_
 exact⟨dkt,(aJ.trans bv),jo,Q,⟨rfl,trivial⟩,prm,(Option.some.inj q).symm,trivial⟩;rintro E g9 hc K ⟨rfl,_⟩;obtain⟨F,q,P⟩:=zt P;refine qz (γ:=Int) (rs [11,12,46,63]) (fun g=>[(11,(vi g))]) (fun g=>[aM]++A) (fun g R=>F=g∧True) ?_ ?_
 refine qd (je (γ:=Nat×Int) (rs [11,12,46,63]) (fun g=>[(11,(vi g.2))]) (fun g=>[aM]++A) (fun g R=>vk N data a pivot E g.1 g.2=some F∧True) (fun g=>g.1) (N,b-1) prm ⟨q,trivial⟩ ?_);clear q;rintro⟨bu,L⟩ dw he aK ⟨q,_⟩;rcases bu with _|bu;exact j3 q
 replace q:vk N data a pivot E (bu+1) L=some F:=q;rw [vk] at q;refine q8 (q8 ?_);obtain⟨bE,bF,q⟩:=zqa q;obtain⟨aV,bT,q⟩:=zt q;let G4:=(true&&((decide (E≤L))==true))
 refine o5 15 [] [phX (vi E),phX (vi L),phX (.bool (decide (E≤L))),phX (.bool (decide (E≤L))),phG G4 (phX d),phG G4 (phX (vi L)),phG G4 ((fun u _=>yw (qa .u16) d (up (up data a (ix data pivot)) pivot (ix data a)) u L.toNat)),phG G4 (phX (.int .u16 (ix (up (up data a (ix data pivot)) pivot (ix data a)) L))),phG G4 (phX d),phG G4 (phX (vi a)),phG G4 ((fun u _=>yw (qa .u16) d (up (up data a (ix data pivot)) pivot (ix data a)) u a.toNat)),phG G4 (phX (.int .u16 (ix (up (up data a (ix data pivot)) pivot (ix data a)) a))),phG G4 (phX (.bool (aV.getD default))),phG G4 (phX (.bool (!(aV.getD default)))),phX (.bool ((decide (E≤L))&&(!(aV.getD default))))] mixed (by kernel_rfl) (pu ⟨zf,zf,zf,zf,(qp zf),(qp zf),(qp (fun _ _ _ _ h=>h)),(qp zf),(qp zf),(qp zf),(qp (fun _ _ _ _ h=>h)),(qp zf),(qp zf),(qp zf),zf,trivial⟩) ⟨?_,?_,?_,?_,?_,?_,?_,?_,?_,?_,?_,?_,?_,?_,?_,trivial⟩ fun dx aW=>?_
 intro l az k m hd;exact zh rfl rfl rfl (zl (z8 (m 10 rfl)));intro l aA k m hd;exact zh rfl rfl rfl (zl (z8 (m 11 rfl)));rintro l aB k m ⟨n,t,_⟩;exact zh rfl rfl rfl (zl (z2h (n rfl) (t rfl)));rintro l aC k m ⟨n,_⟩;exact zh rfl rfl rfl (zl (z8 (n rfl)));rintro l aD k m ⟨n,_⟩
 exact zw (Gj:=true) (Bj:=decide (E≤L)) rfl rfl rfl (ji (n rfl)) rfl (fun I z=>zl (z8 (m 0 rfl)));rintro l aE k m ⟨n,_⟩;exact zw (Gj:=true) (Bj:=decide (E≤L)) rfl rfl rfl (ji (n rfl)) rfl (fun I z=>zl (z8 (m 11 rfl)));rintro l aF k m ⟨n,t,X,_⟩
 exact zw (Gj:=true) (Bj:=decide (E≤L)) rfl rfl rfl (ji (X rfl)) rfl (fun I z=>qj (i:=L.toNat) xm (show l 50=d from(n rfl).1 (zq rfl z)) ((W.mono (K.trans aK)).mono k) (zm (show l 51=(vi L) from(t rfl).1 (zq rfl z)) (bE (zq I z)).1) (zy (bE (zq I z))));rintro l aG k m ⟨n,t,_⟩
 exact zw (Gj:=true) (Bj:=decide (E≤L)) rfl rfl rfl (ji (t rfl)) rfl (fun I z=>j4 (jf (i:=L.toNat) (j:=0) gu ((W.mono (K.trans aK)).mono k) rfl rfl ((n rfl).1 (zq rfl z)) (zy (bE (zq I z)))) (fun _ _ h=>qb.1 h));rintro l aH k m ⟨n,_⟩
 exact zw (Gj:=true) (Bj:=decide (E≤L)) rfl rfl rfl (ji (n rfl)) rfl (fun I z=>zl (z8 (m 0 rfl)));rintro l aI k m ⟨n,_⟩;exact zw (Gj:=true) (Bj:=decide (E≤L)) rfl rfl rfl (ji (n rfl)) rfl (fun I z=>zl (z8 (m 1 rfl)));rintro l ae k m ⟨n,t,X,_⟩
 exact zw (Gj:=true) (Bj:=decide (E≤L)) rfl rfl rfl (ji (X rfl)) rfl (fun I z=>qj (i:=a.toNat) xm (show l 54=d from(n rfl).1 (zq rfl z)) ((W.mono (K.trans aK)).mono k) (zm (show l 55=(vi a) from(t rfl).1 (zq rfl z)) (bF (zq I z)).1) (zy (bF (zq I z))));rintro l af k m ⟨n,t,_⟩
 exact zw (Gj:=true) (Bj:=decide (E≤L)) rfl rfl rfl (ji (t rfl)) rfl (fun I z=>j4 (jf (i:=a.toNat) (j:=0) gu ((W.mono (K.trans aK)).mono k) rfl rfl ((n rfl).1 (zq rfl z)) (zy (bF (zq I z)))) (fun _ _ h=>qb.1 h));rintro l T k m ⟨n,t,X,d3,_⟩
 have bU:phG G4 (phX (.int .u16 (ix (up (up data a (ix data pivot)) pivot (ix data a)) L))) (l 53) T:=n rfl;have bV:phG G4 (phX (.int .u16 (ix (up (up data a (ix data pivot)) pivot (ix data a)) a))) (l 57) T:=t rfl
 exact zw (Gj:=true) (Bj:=decide (E≤L)) rfl rfl rfl (ji (X rfl)) rfl (fun I z=>yh (vs:=[(.int .u16 (ix (up (up data a (ix data pivot)) pivot (ix data a)) L)),(.int .u16 (ix (up (up data a (ix data pivot)) pivot (ix data a)) a))]) zc2 (by simp only [List.map,ev,(show l 53=(.int .u16 (ix (up (up data a (ix data pivot)) pivot (ix data a)) L)) from bU.1 (zq rfl z)),(show l 57=(.int .u16 (ix (up (up data a (ix data pivot)) pivot (ix data a)) a)) from bV.1 (zq rfl z))]<;>rfl) ((by have aN:=(r9 bT (zq I z));exact yl  aN)) (fun _ _ h=>h))
 rintro l ag k m ⟨n,t,_⟩;exact zw (Gj:=true) (Bj:=decide (E≤L)) rfl rfl rfl (ji (t rfl)) rfl (fun I z=>zl (iy (show l 58=(.bool (aV.getD default)) from(n rfl).1 (zq rfl z))));rintro l am k m ⟨n,t,_⟩
 exact zh rfl rfl rfl (zl (xk (n rfl) (fun hb=>(show l 59=(.bool (!(aV.getD default))) from(t rfl).1 (zq rfl hb))) rfl));intro dy bW dz bX dA bY dB bZ dC dD dE dF dG dH dI dJ dK dL dM dN dO dP dQ dR dS dT dU dV dW b0;obtain rfl:=Eq.symm bW;obtain rfl:=Eq.symm bX;obtain rfl:=Eq.symm bY
 obtain rfl:=Eq.symm bZ;obtain rfl:=Eq.symm b0;refine za (q9 rfl q (fun q=>?_) (fun q=>?_));refine qc (qd (zz (zg (vi L) ?_)));obtain⟨b1,q⟩:=ze q;refine zx (ul rfl rfl b1) (zi (vi (L-1)) (za ?_));exact⟨dkt,aW,jo,(bu,L-1),Nat.lt_succ_self _,⟨rfl,trivial⟩,prm,q,trivial⟩
 refine jr ?_;exact⟨dkt,(aK.trans aW),jo,L,⟨rfl,trivial⟩,prm,(Option.some.inj q).symm,trivial⟩;rintro F dX hg U ⟨rfl,_⟩;refine q8 (zu (zg (vi E) (zg (vi F) (zx (l5 rfl rfl) (za (q9 rfl P (fun P=>?_) (fun P=>?_)))))));refine q8 ?_;obtain⟨aX,aY,aZ,a0,P⟩:=zpx P
 refine z0i [13,15] [(fun es=>phX d),(fun es=>phX (vi F)),(fun es=>phX d),(fun es=>phX (vi a)),(fun es=>phX d),(fun es=>phX (vi a)),(fun es=>(fun u _=>yw (qa .u16) d (up (up data a (ix data pivot)) pivot (ix data a)) u a.toNat)),(fun es=>phX (.int .u16 (ix (up (up data a (ix data pivot)) pivot (ix data a)) a))),(fun es=>phX d),(fun es=>phX (vi F)),(fun es=>(fun u _=>yw (qa .u16) d (up (up data a (ix data pivot)) pivot (ix data a)) u F.toNat)),(fun es=>phX (.int .u16 (ix (up (up data a (ix data pivot)) pivot (ix data a)) F))),(fun es=>(fun u _=>yw (qa .u16) d (up (up data a (ix data pivot)) pivot (ix data a)) u F.toNat)),(fun es=>(fun _ _=>True)),(fun es=>(fun u _=>yw (qa .u16) d (up (up data a (ix data pivot)) pivot (ix data a)) u a.toNat)),(fun es=>(fun _ _=>True))] (fun fl es R O=>(fl=[false,false]∧O.Perm ([aM]++A)∧True)∨(fl=[true,false]∧ ∃ (fA:Frag),O.Perm ([fA]++A)∧ORep (qa .u16) R fA d (up (up (up data a (ix data pivot)) pivot (ix data a)) F (ix (up (up data a (ix data pivot)) pivot (ix data a)) a))∧True)∨(fl=[true,true]∧ ∃ (fA:Frag),O.Perm ([fA]++A)∧ORep (qa .u16) R fA d (up (up (up (up data a (ix data pivot)) pivot (ix data a)) F (ix (up (up data a (ix data pivot)) pivot (ix data a)) a)) a (ix (up (up data a (ix data pivot)) pivot (ix data a)) F))∧True)) mixed (by kernel_rfl) ⟨(zk zf),(zk zf),(zk zf),(zk zf),(zk zf),(zk zf),(zk (fun _ _ _ _ h=>h)),(zk zf),(zk zf),(zk zf),(zk (fun _ _ _ _ h=>h)),(zk zf),(zk (fun _ _ _ _ h=>h)),(fun _ _ _ _ _ h=>h),(zk (fun _ _ _ _ h=>h)),(fun _ _ _ _ _ h=>h),trivial⟩ (by rintro fl es R R' O k (⟨rfl,s,_⟩|⟨rfl,fA,s,c,_⟩|⟨rfl,fA,s,c,_⟩);exact(.inl ⟨rfl,s,trivial⟩);exact(.inr (.inl ⟨rfl,fA,s,(c.mono k),trivial⟩));exact(.inr (.inr ⟨rfl,fA,s,(c.mono k),trivial⟩))) ⟨(fun _ _ _ _ _ h=>h),(fun _ _ _ _ _ h=>h),(fun _ _ _ _ _ h=>h),(fun _ _ _ _ _ h=>h),(fun _ _ _ _ _ h=>h),(fun _ _ _ _ _ h=>h),(fun _ _ _ _ _ h=>h),(fun _ _ _ _ _ h=>h),(fun _ _ _ _ _ h=>h),(fun _ _ _ _ _ h=>h),(fun _ _ _ _ _ h=>h),(fun _ _ _ _ _ h=>h),(fun _ _ _ _ _ h=>h),(fun _ _ _ _ _ h=>h),(fun _ _ _ _ _ h=>h),(fun _ _ _ _ _ h=>h),trivial⟩ (fun es=> .inl ⟨rfl,(List.Perm.refl _),trivial⟩) ⟨?_,?_,?_,?_,?_,?_,?_,?_,?_,?_,?_,?_,?_,?_,?_,?_,trivial⟩ fun b2 bG=>?_
 intro l az fl O k m hd x y;exact zl (z8 (m 0 rfl));intro l aA fl O k m hd x y;exact zl (z8 (m 11 rfl));intro l aB fl O k m hd x y;obtain⟨n,_⟩:=hd;exact zl (z8 (m 0 rfl));intro l aC fl O k m hd x y;obtain⟨n,_⟩:=hd;exact zl (z8 (m 1 rfl));intro l aD fl O k m hd x y;exact zl (z8 (m 0 rfl))
 intro l aE fl O k m hd x y;exact zl (z8 (m 1 rfl));intro l aF fl O k m hd x y;obtain⟨n,t,_⟩:=hd;exact qj (i:=a.toNat) xm (n rfl) ((W.mono (K.trans U)).mono k) (zm (t rfl) aX.1) (zy aX);intro l aG fl O k m hd x y;obtain⟨n,_⟩:=hd
 rcases y with⟨rfl,s,_⟩|⟨rfl,fA,s,c,_⟩|⟨rfl,fA,s,c,_⟩;exact uo s (j4 (jf (i:=a.toNat) (j:=0) gu ((W.mono (K.trans U)).mono k) rfl rfl (n rfl) (zy aX)) (fun _ _ h=>qb.1 h));exact uz x (by kernel_rfl);exact uz x (by kernel_rfl);intro l aH fl O k m hd x y;exact zl (z8 (m 0 rfl))
 intro l aI fl O k m hd x y;exact zl (z8 (m 11 rfl));intro l ae fl O k m hd x y;obtain⟨n,t,_⟩:=hd;exact qj (i:=F.toNat) xm (n rfl) ((W.mono (K.trans U)).mono k) (zm (t rfl) aY.1) (zy aY);intro l af fl O k m hd x y;obtain⟨n,_⟩:=hd
 rcases y with⟨rfl,s,_⟩|⟨rfl,fA,s,c,_⟩|⟨rfl,fA,s,c,_⟩;exact uo s (j4 (jf (i:=F.toNat) (j:=0) gu ((W.mono (K.trans U)).mono k) rfl rfl (n rfl) (zy aY)) (fun _ _ h=>qb.1 h));exact uz x (by kernel_rfl);exact uz x (by kernel_rfl);intro l T fl O k m hd x y
 obtain⟨n,t,X,d3,d4,d5,d6,d7,d8,d9,aa,ab,ac,ad,_⟩:=hd;exact qj (i:=F.toNat) xm (n rfl) ((W.mono (K.trans U)).mono k) (zm (t rfl) aZ.1) (zy aZ);intro l ag fl O k m hd x hf y;obtain⟨n,t,X,d3,d4,d5,d6,d7,d8,d9,aa,ab,ac,ad,_⟩:=hd
 rcases y with⟨rfl,s,_⟩|⟨rfl,fA,s,c,_⟩|⟨rfl,fA,s,c,_⟩;refine vv s ?_;refine Eff.mono (uf (i:=F.toNat) (j:=0) gu ((W.mono (K.trans U)).mono k) rfl rfl (n rfl) (zy aZ) (t rfl) (qb.2 rfl)) ?_;rintro v R' O' hle' ⟨rfl,f,rfl,ho⟩;exact⟨trivial,.inr (.inl ⟨rfl,f,(List.Perm.refl _),ho,trivial⟩)⟩;cases hf
 cases hf;intro l am fl O k m hd x y;obtain⟨n,t,X,d3,d4,d5,d6,d7,d8,d9,aa,ab,ac,ad,ax,ay,_⟩:=hd;exact qj (i:=a.toNat) xm (n rfl) ((W.mono (K.trans U)).mono k) (zm (t rfl) a0.1) (zy a0);intro l aP fl O k m hd x hf y;obtain⟨n,t,X,d3,d4,d5,d6,d7,d8,d9,aa,ab,ac,ad,ax,ay,bs,_⟩:=hd
 rcases y with⟨rfl,s,_⟩|⟨rfl,fA,s,c,_⟩|⟨rfl,fA,s,c,_⟩;exact uz x (by kernel_rfl);refine vv s ?_;refine Eff.mono (uf (i:=a.toNat) (j:=0) gu c rfl rfl (z0d (n rfl)) (by rw [up,List.length_set];exact zy a0) (t rfl) (qb.2 rfl)) ?_;rintro v R' O' hle' ⟨rfl,f,rfl,ho⟩
 exact⟨trivial,.inr (.inr ⟨rfl,f,(List.Perm.refl _),ho,trivial⟩)⟩;cases hf;intro dY dZ ea eb ec ed ee ef eg eh ei ej ek el b3 b4 b5 b6 b7 b8 em b9 ca cb en cc eo ep;rintro dr (⟨e,_⟩|⟨e,_⟩|⟨_,a1,s,a2,_⟩);cases e;cases e;refine⟨[],_,s,?_⟩
 replace a2:ORep (qa .u16) b2 a1 d (up (up (up (up data a (ix data pivot)) pivot (ix data a)) F (ix (up (up data a (ix data pivot)) pivot (ix data a)) a)) a (ix (up (up data a (ix data pivot)) pivot (ix data a)) F)):=a2;obtain rfl:=Eq.symm b3;obtain rfl:=Eq.symm b4;obtain rfl:=Eq.symm b5;obtain rfl:=Eq.symm b6;obtain rfl:=Eq.symm b7
 obtain rfl:=Eq.symm b8;obtain rfl:=Eq.symm b9;obtain rfl:=Eq.symm ca;obtain rfl:=Eq.symm cb;obtain rfl:=Eq.symm cc;refine qo (zg (vi F) (zi (vi F) (zi (.bool true) (za (ql ?_)))));obtain rfl:=Option.some.inj P
 refine yj (D:=[]) (J:=[]) (O':=[a1]) (rs:=[.tmp 8,.tmp 9]) (vs:=[(vi F),(.bool true)]) (((bQ.trans K).trans U).trans bG) ((pk 0 rfl (List.Perm.refl _))) rfl ⟨rfl,rfl,trivial⟩ ?_;exact⟨a1,rfl,rfl,a2⟩;refine qc (q8 ?_);obtain⟨a3,a4,a5,a6,P⟩:=zpx P
 refine z0i [13,15] [(fun es=>phX d),(fun es=>phX (vi E)),(fun es=>phX d),(fun es=>phX (vi F)),(fun es=>phX d),(fun es=>phX (vi F)),(fun es=>(fun u _=>yw (qa .u16) d (up (up data a (ix data pivot)) pivot (ix data a)) u F.toNat)),(fun es=>phX (.int .u16 (ix (up (up data a (ix data pivot)) pivot (ix data a)) F))),(fun es=>phX d),(fun es=>phX (vi E)),(fun es=>(fun u _=>yw (qa .u16) d (up (up data a (ix data pivot)) pivot (ix data a)) u E.toNat)),(fun es=>phX (.int .u16 (ix (up (up data a (ix data pivot)) pivot (ix data a)) E))),(fun es=>(fun u _=>yw (qa .u16) d (up (up data a (ix data pivot)) pivot (ix data a)) u E.toNat)),(fun es=>(fun _ _=>True)),(fun es=>(fun u _=>yw (qa .u16) d (up (up data a (ix data pivot)) pivot (ix data a)) u F.toNat)),(fun es=>(fun _ _=>True))] (fun fl es R O=>(fl=[false,false]∧O.Perm ([aM]++A)∧True)∨(fl=[true,false]∧ ∃ (fA:Frag),O.Perm ([fA]++A)∧ORep (qa .u16) R fA d (up (up (up data a (ix data pivot)) pivot (ix data a)) E (ix (up (up data a (ix data pivot)) pivot (ix data a)) F))∧True)∨(fl=[true,true]∧ ∃ (fA:Frag),O.Perm ([fA]++A)∧ORep (qa .u16) R fA d (up (up (up (up data a (ix data pivot)) pivot (ix data a)) E (ix (up (up data a (ix data pivot)) pivot (ix data a)) F)) F (ix (up (up data a (ix data pivot)) pivot (ix data a)) E))∧True)) mixed (by kernel_rfl) ⟨(zk zf),(zk zf),(zk zf),(zk zf),(zk zf),(zk zf),(zk (fun _ _ _ _ h=>h)),(zk zf),(zk zf),(zk zf),(zk (fun _ _ _ _ h=>h)),(zk zf),(zk (fun _ _ _ _ h=>h)),(fun _ _ _ _ _ h=>h),(zk (fun _ _ _ _ h=>h)),(fun _ _ _ _ _ h=>h),trivial⟩ (by rintro fl es R R' O k (⟨rfl,s,_⟩|⟨rfl,fA,s,c,_⟩|⟨rfl,fA,s,c,_⟩);exact(.inl ⟨rfl,s,trivial⟩);exact(.inr (.inl ⟨rfl,fA,s,(c.mono k),trivial⟩));exact(.inr (.inr ⟨rfl,fA,s,(c.mono k),trivial⟩))) ⟨(fun _ _ _ _ _ h=>h),(fun _ _ _ _ _ h=>h),(fun _ _ _ _ _ h=>h),(fun _ _ _ _ _ h=>h),(fun _ _ _ _ _ h=>h),(fun _ _ _ _ _ h=>h),(fun _ _ _ _ _ h=>h),(fun _ _ _ _ _ h=>h),(fun _ _ _ _ _ h=>h),(fun _ _ _ _ _ h=>h),(fun _ _ _ _ _ h=>h),(fun _ _ _ _ _ h=>h),(fun _ _ _ _ _ h=>h),(fun _ _ _ _ _ h=>h),(fun _ _ _ _ _ h=>h),(fun _ _ _ _ _ h=>h),trivial⟩ (fun es=> .inl ⟨rfl,(List.Perm.refl _),trivial⟩) ⟨?_,?_,?_,?_,?_,?_,?_,?_,?_,?_,?_,?_,?_,?_,?_,?_,trivial⟩ fun cd bH=>?_
 intro l az fl O k m hd x y;exact zl (z8 (m 0 rfl));intro l aA fl O k m hd x y;exact zl (z8 (m 10 rfl));intro l aB fl O k m hd x y;obtain⟨n,_⟩:=hd;exact zl (z8 (m 0 rfl));intro l aC fl O k m hd x y;obtain⟨n,_⟩:=hd;exact zl (z8 (m 11 rfl));intro l aD fl O k m hd x y;exact zl (z8 (m 0 rfl))
 intro l aE fl O k m hd x y;exact zl (z8 (m 11 rfl));intro l aF fl O k m hd x y;obtain⟨n,t,_⟩:=hd;exact qj (i:=F.toNat) xm (n rfl) ((W.mono (K.trans U)).mono k) (zm (t rfl) a3.1) (zy a3);intro l aG fl O k m hd x y;obtain⟨n,_⟩:=hd
 rcases y with⟨rfl,s,_⟩|⟨rfl,fA,s,c,_⟩|⟨rfl,fA,s,c,_⟩;exact uo s (j4 (jf (i:=F.toNat) (j:=0) gu ((W.mono (K.trans U)).mono k) rfl rfl (n rfl) (zy a3)) (fun _ _ h=>qb.1 h));exact uz x (by kernel_rfl);exact uz x (by kernel_rfl);intro l aH fl O k m hd x y;exact zl (z8 (m 0 rfl))
 intro l aI fl O k m hd x y;exact zl (z8 (m 10 rfl));intro l ae fl O k m hd x y;obtain⟨n,t,_⟩:=hd;exact qj (i:=E.toNat) xm (n rfl) ((W.mono (K.trans U)).mono k) (zm (t rfl) a4.1) (zy a4);intro l af fl O k m hd x y;obtain⟨n,_⟩:=hd
 rcases y with⟨rfl,s,_⟩|⟨rfl,fA,s,c,_⟩|⟨rfl,fA,s,c,_⟩;exact uo s (j4 (jf (i:=E.toNat) (j:=0) gu ((W.mono (K.trans U)).mono k) rfl rfl (n rfl) (zy a4)) (fun _ _ h=>qb.1 h));exact uz x (by kernel_rfl);exact uz x (by kernel_rfl);intro l T fl O k m hd x y
 obtain⟨n,t,X,d3,d4,d5,d6,d7,d8,d9,aa,ab,ac,ad,_⟩:=hd;exact qj (i:=E.toNat) xm (n rfl) ((W.mono (K.trans U)).mono k) (zm (t rfl) a5.1) (zy a5);intro l ag fl O k m hd x hf y;obtain⟨n,t,X,d3,d4,d5,d6,d7,d8,d9,aa,ab,ac,ad,_⟩:=hd
 rcases y with⟨rfl,s,_⟩|⟨rfl,fA,s,c,_⟩|⟨rfl,fA,s,c,_⟩;refine vv s ?_;refine Eff.mono (uf (i:=E.toNat) (j:=0) gu ((W.mono (K.trans U)).mono k) rfl rfl (n rfl) (zy a5) (t rfl) (qb.2 rfl)) ?_;rintro v R' O' hle' ⟨rfl,f,rfl,ho⟩;exact⟨trivial,.inr (.inl ⟨rfl,f,(List.Perm.refl _),ho,trivial⟩)⟩;cases hf
 cases hf;intro l am fl O k m hd x y;obtain⟨n,t,X,d3,d4,d5,d6,d7,d8,d9,aa,ab,ac,ad,ax,ay,_⟩:=hd;exact qj (i:=F.toNat) xm (n rfl) ((W.mono (K.trans U)).mono k) (zm (t rfl) a6.1) (zy a6);intro l aP fl O k m hd x hf y;obtain⟨n,t,X,d3,d4,d5,d6,d7,d8,d9,aa,ab,ac,ad,ax,ay,bs,_⟩:=hd
 rcases y with⟨rfl,s,_⟩|⟨rfl,fA,s,c,_⟩|⟨rfl,fA,s,c,_⟩;exact uz x (by kernel_rfl);refine vv s ?_;refine Eff.mono (uf (i:=F.toNat) (j:=0) gu c rfl rfl (z0d (n rfl)) (by rw [up,List.length_set];exact zy a6) (t rfl) (qb.2 rfl)) ?_;rintro v R' O' hle' ⟨rfl,f,rfl,ho⟩
 exact⟨trivial,.inr (.inr ⟨rfl,f,(List.Perm.refl _),ho,trivial⟩)⟩;cases hf;intro eq er et eu ew ex ey ez eA eB eC eD eE eF ce cf cg ch ci cj eG ck cl cm eH cn eI eJ;rintro ds (⟨e,_⟩|⟨e,_⟩|⟨_,bw,s,a7,_⟩);cases e;cases e;refine⟨[],_,s,?_⟩
 replace a7:ORep (qa .u16) cd bw d (up (up (up (up data a (ix data pivot)) pivot (ix data a)) E (ix (up (up data a (ix data pivot)) pivot (ix data a)) F)) F (ix (up (up data a (ix data pivot)) pivot (ix data a)) E)):=a7;obtain rfl:=Eq.symm ce;obtain rfl:=Eq.symm cf;obtain rfl:=Eq.symm cg;obtain rfl:=Eq.symm ch;obtain rfl:=Eq.symm ci
 obtain rfl:=Eq.symm cj;obtain rfl:=Eq.symm ck;obtain rfl:=Eq.symm cl;obtain rfl:=Eq.symm cm;obtain rfl:=Eq.symm cn;refine qo (zg (vi E) ?_);obtain⟨co,P⟩:=ze P;refine zx (qx rfl rfl co) (zi (vi (E+1)) (qo (zg (vi F) ?_)));obtain⟨cp,P⟩:=ze P
 refine zx (ul rfl rfl cp) (zi (vi (F-1)) (za ?_));obtain⟨w,q,P⟩:=zt P;refine qz (γ:=(Int×List Int)×Frag) (rs [10,12,99,153]) (fun g=>[(11,(vi g.1.1))]) (fun g=>[g.2]++A) (fun g R=>w=g.1∧ORep (qa .u16) R g.2 d g.1.2∧True) ?_ ?_
 refine qd (je (γ:=Nat×Int×Int×(List Int)×Frag) (rs [10,12,99,153]) (fun g=>[(10,(vi g.2.1)),(11,(vi g.2.2.1))]) (fun g=>[g.2.2.2.2]++A) (fun g R=>vo N a g.1 g.2.1 g.2.2.1 g.2.2.2.1=some w∧ORep (qa .u16) R g.2.2.2.2 d g.2.2.2.1∧True) (fun g=>g.1) (N,E+1,F-1,(up (up (up (up data a (ix data pivot)) pivot (ix data a)) E (ix (up (up data a (ix data pivot)) pivot (ix data a)) F)) F (ix (up (up data a (ix data pivot)) pivot (ix data a)) E)),bw) prm ⟨q,a7,trivial⟩ ?_)
 clear q;rintro⟨aQ,bx,S,o,an⟩ eK eL bI ⟨q,V,_⟩;rcases aQ with _|aQ;exact j3 q;replace q:vo N a (aQ+1) bx S o=some w:=q;rw [vo] at q;refine qd ?_;obtain⟨p,H,q⟩:=zt q
 refine qz (γ:=Int) (rs [10,11,99,115]) (fun g=>[(10,(vi g))]) (fun g=>[an]++A) (fun g R=>p=g∧True) ?_ ?_;refine qd (je (γ:=Nat×Int) (rs [10,11,99,115]) (fun g=>[(10,(vi g.2))]) (fun g=>[an]++A) (fun g R=>vg N a S o g.1 g.2=some p∧True) (fun g=>g.1) (N,bx) prm ⟨H,trivial⟩ ?_)
 clear H;rintro⟨aR,C⟩ eM eN aj ⟨H,_⟩;rcases aR with _|aR;exact j3 H;replace H:vg N a S o (aR+1) C=some p:=H;rw [vg] at H;refine q8 (q8 ?_);obtain⟨a8,a9,H⟩:=zqa H;obtain⟨ba,cq,H⟩:=zt H
 let G2:=(true&&((decide (C≤S))==true))
 refine o5 14 [] [phX (vi C),phX (vi S),phX (.bool (decide (C≤S))),phX (.bool (decide (C≤S))),phG G2 (phX d),phG G2 (phX (vi C)),phG G2 ((fun u _=>yw (qa .u16) d o u C.toNat)),phG G2 (phX (.int .u16 (ix o C))),phG G2 (phX d),phG G2 (phX (vi a)),phG G2 ((fun u _=>yw (qa .u16) d o u a.toNat)),phG G2 (phX (.int .u16 (ix o a))),phG G2 (phX (.bool (ba.getD default))),phX (.bool ((decide (C≤S))&&(ba.getD default)))] mixed (by kernel_rfl) (pu ⟨zf,zf,zf,zf,(qp zf),(qp zf),(qp (fun _ _ _ _ h=>h)),(qp zf),(qp zf),(qp zf),(qp (fun _ _ _ _ h=>h)),(qp zf),(qp zf),zf,trivial⟩) ⟨?_,?_,?_,?_,?_,?_,?_,?_,?_,?_,?_,?_,?_,?_,trivial⟩ fun eO bc=>?_
 intro l az k m hd;exact zh rfl rfl rfl (zl (z8 (m 10 rfl)));intro l aA k m hd;exact zh rfl rfl rfl (zl (z8 (m 11 rfl)));rintro l aB k m ⟨n,t,_⟩;exact zh rfl rfl rfl (zl (z2h (n rfl) (t rfl)));rintro l aC k m ⟨n,_⟩;exact zh rfl rfl rfl (zl (z8 (n rfl)));rintro l aD k m ⟨n,_⟩
 exact zw (Gj:=true) (Bj:=decide (C≤S)) rfl rfl rfl (ji (n rfl)) rfl (fun I z=>zl (z8 (m 0 rfl)));rintro l aE k m ⟨n,_⟩;exact zw (Gj:=true) (Bj:=decide (C≤S)) rfl rfl rfl (ji (n rfl)) rfl (fun I z=>zl (z8 (m 10 rfl)));rintro l aF k m ⟨n,t,X,_⟩
 exact zw (Gj:=true) (Bj:=decide (C≤S)) rfl rfl rfl (ji (X rfl)) rfl (fun I z=>qj (i:=C.toNat) xm (show l 103=d from(n rfl).1 (zq rfl z)) ((V.mono aj).mono k) (zm (show l 104=(vi C) from(t rfl).1 (zq rfl z)) (a8 (zq I z)).1) (zy (a8 (zq I z))));rintro l aG k m ⟨n,t,_⟩
 exact zw (Gj:=true) (Bj:=decide (C≤S)) rfl rfl rfl (ji (t rfl)) rfl (fun I z=>j4 (jf (i:=C.toNat) (j:=0) gu ((V.mono aj).mono k) rfl rfl ((n rfl).1 (zq rfl z)) (zy (a8 (zq I z)))) (fun _ _ h=>qb.1 h));rintro l aH k m ⟨n,_⟩
 exact zw (Gj:=true) (Bj:=decide (C≤S)) rfl rfl rfl (ji (n rfl)) rfl (fun I z=>zl (z8 (m 0 rfl)));rintro l aI k m ⟨n,_⟩;exact zw (Gj:=true) (Bj:=decide (C≤S)) rfl rfl rfl (ji (n rfl)) rfl (fun I z=>zl (z8 (m 1 rfl)));rintro l ae k m ⟨n,t,X,_⟩
 exact zw (Gj:=true) (Bj:=decide (C≤S)) rfl rfl rfl (ji (X rfl)) rfl (fun I z=>qj (i:=a.toNat) xm (show l 107=d from(n rfl).1 (zq rfl z)) ((V.mono aj).mono k) (zm (show l 108=(vi a) from(t rfl).1 (zq rfl z)) (a9 (zq I z)).1) (zy (a9 (zq I z))));rintro l af k m ⟨n,t,_⟩
 exact zw (Gj:=true) (Bj:=decide (C≤S)) rfl rfl rfl (ji (t rfl)) rfl (fun I z=>j4 (jf (i:=a.toNat) (j:=0) gu ((V.mono aj).mono k) rfl rfl ((n rfl).1 (zq rfl z)) (zy (a9 (zq I z)))) (fun _ _ h=>qb.1 h));rintro l T k m ⟨n,t,X,d3,_⟩;have bJ:phG G2 (phX (.int .u16 (ix o C))) (l 106) T:=n rfl
 have bK:phG G2 (phX (.int .u16 (ix o a))) (l 110) T:=t rfl
 exact zw (Gj:=true) (Bj:=decide (C≤S)) rfl rfl rfl (ji (X rfl)) rfl (fun I z=>yh (vs:=[(.int .u16 (ix o C)),(.int .u16 (ix o a))]) zc2 (by simp only [List.map,ev,(show l 106=(.int .u16 (ix o C)) from bJ.1 (zq rfl z)),(show l 110=(.int .u16 (ix o a)) from bK.1 (zq rfl z))]<;>rfl) ((by have aN:=(r9 cq (zq I z));exact yl  aN)) (fun _ _ h=>h))
 rintro l ag k m ⟨n,t,_⟩;exact zh rfl rfl rfl (zl (xk (n rfl) (fun hb=>(show l 111=(.bool (ba.getD default)) from(t rfl).1 (zq rfl hb))) rfl));intro eP cr eQ cs eR ct eS cu eT eU eV eW eX eY eZ e0 e1 e2 e3 e4 e5 e6 e7 e8 e9 fa fb cv;obtain rfl:=Eq.symm cr;obtain rfl:=Eq.symm cs
 obtain rfl:=Eq.symm ct;obtain rfl:=Eq.symm cu;obtain rfl:=Eq.symm cv;refine za (q9 rfl H (fun H=>?_) (fun H=>?_));refine qc (qd (zz (zg (vi C) ?_)));obtain⟨cw,H⟩:=ze H;refine zx (qx rfl rfl cw) (zi (vi (C+1)) (za ?_))
 exact⟨dkt,bc,jo,(aR,C+1),Nat.lt_succ_self _,⟨rfl,trivial⟩,prm,H,trivial⟩;refine jr ?_;exact⟨dkt,(aj.trans bc),jo,C,⟨rfl,trivial⟩,prm,(Option.some.inj H).symm,trivial⟩;rintro p fc fd M ⟨rfl,_⟩;obtain⟨G,H,q⟩:=zt q
 refine qz (γ:=Int) (rs [11,12,115,132]) (fun g=>[(11,(vi g))]) (fun g=>[an]++A) (fun g R=>G=g∧True) ?_ ?_
 refine qd (je (γ:=Nat×Int) (rs [11,12,115,132]) (fun g=>[(11,(vi g.2))]) (fun g=>[an]++A) (fun g R=>wy N a o p g.1 g.2=some G∧True) (fun g=>g.1) (N,S) prm ⟨H,trivial⟩ ?_);clear H;rintro⟨aS,B⟩ fe ff ak ⟨H,_⟩;rcases aS with _|aS;exact j3 H
 replace H:wy N a o p (aS+1) B=some G:=H;rw [wy] at H;refine q8 (q8 ?_);obtain⟨be,bf,H⟩:=zqa H;obtain⟨aL,cx,H⟩:=zt H;let G3:=(true&&((decide (p≤B))==true))
 refine o5 15 [] [phX (vi p),phX (vi B),phX (.bool (decide (p≤B))),phX (.bool (decide (p≤B))),phG G3 (phX d),phG G3 (phX (vi B)),phG G3 ((fun u _=>yw (qa .u16) d o u B.toNat)),phG G3 (phX (.int .u16 (ix o B))),phG G3 (phX d),phG G3 (phX (vi a)),phG G3 ((fun u _=>yw (qa .u16) d o u a.toNat)),phG G3 (phX (.int .u16 (ix o a))),phG G3 (phX (.bool (aL.getD default))),phG G3 (phX (.bool (!(aL.getD default)))),phX (.bool ((decide (p≤B))&&(!(aL.getD default))))] mixed (by kernel_rfl) (pu ⟨zf,zf,zf,zf,(qp zf),(qp zf),(qp (fun _ _ _ _ h=>h)),(qp zf),(qp zf),(qp zf),(qp (fun _ _ _ _ h=>h)),(qp zf),(qp zf),(qp zf),zf,trivial⟩) ⟨?_,?_,?_,?_,?_,?_,?_,?_,?_,?_,?_,?_,?_,?_,?_,trivial⟩ fun fg bg=>?_
 intro l az k m hd;exact zh rfl rfl rfl (zl (z8 (m 10 rfl)));intro l aA k m hd;exact zh rfl rfl rfl (zl (z8 (m 11 rfl)));rintro l aB k m ⟨n,t,_⟩;exact zh rfl rfl rfl (zl (z2h (n rfl) (t rfl)));rintro l aC k m ⟨n,_⟩;exact zh rfl rfl rfl (zl (z8 (n rfl)));rintro l aD k m ⟨n,_⟩
 exact zw (Gj:=true) (Bj:=decide (p≤B)) rfl rfl rfl (ji (n rfl)) rfl (fun I z=>zl (z8 (m 0 rfl)));rintro l aE k m ⟨n,_⟩;exact zw (Gj:=true) (Bj:=decide (p≤B)) rfl rfl rfl (ji (n rfl)) rfl (fun I z=>zl (z8 (m 11 rfl)));rintro l aF k m ⟨n,t,X,_⟩
 exact zw (Gj:=true) (Bj:=decide (p≤B)) rfl rfl rfl (ji (X rfl)) rfl (fun I z=>qj (i:=B.toNat) xm (show l 119=d from(n rfl).1 (zq rfl z)) ((V.mono (M.trans ak)).mono k) (zm (show l 120=(vi B) from(t rfl).1 (zq rfl z)) (be (zq I z)).1) (zy (be (zq I z))));rintro l aG k m ⟨n,t,_⟩
 exact zw (Gj:=true) (Bj:=decide (p≤B)) rfl rfl rfl (ji (t rfl)) rfl (fun I z=>j4 (jf (i:=B.toNat) (j:=0) gu ((V.mono (M.trans ak)).mono k) rfl rfl ((n rfl).1 (zq rfl z)) (zy (be (zq I z)))) (fun _ _ h=>qb.1 h));rintro l aH k m ⟨n,_⟩
 exact zw (Gj:=true) (Bj:=decide (p≤B)) rfl rfl rfl (ji (n rfl)) rfl (fun I z=>zl (z8 (m 0 rfl)));rintro l aI k m ⟨n,_⟩;exact zw (Gj:=true) (Bj:=decide (p≤B)) rfl rfl rfl (ji (n rfl)) rfl (fun I z=>zl (z8 (m 1 rfl)));rintro l ae k m ⟨n,t,X,_⟩
 exact zw (Gj:=true) (Bj:=decide (p≤B)) rfl rfl rfl (ji (X rfl)) rfl (fun I z=>qj (i:=a.toNat) xm (show l 123=d from(n rfl).1 (zq rfl z)) ((V.mono (M.trans ak)).mono k) (zm (show l 124=(vi a) from(t rfl).1 (zq rfl z)) (bf (zq I z)).1) (zy (bf (zq I z))));rintro l af k m ⟨n,t,_⟩
 exact zw (Gj:=true) (Bj:=decide (p≤B)) rfl rfl rfl (ji (t rfl)) rfl (fun I z=>j4 (jf (i:=a.toNat) (j:=0) gu ((V.mono (M.trans ak)).mono k) rfl rfl ((n rfl).1 (zq rfl z)) (zy (bf (zq I z)))) (fun _ _ h=>qb.1 h));rintro l T k m ⟨n,t,X,d3,_⟩
 have bL:phG G3 (phX (.int .u16 (ix o B))) (l 122) T:=n rfl;have bM:phG G3 (phX (.int .u16 (ix o a))) (l 126) T:=t rfl
 exact zw (Gj:=true) (Bj:=decide (p≤B)) rfl rfl rfl (ji (X rfl)) rfl (fun I z=>yh (vs:=[(.int .u16 (ix o B)),(.int .u16 (ix o a))]) zc2 (by simp only [List.map,ev,(show l 122=(.int .u16 (ix o B)) from bL.1 (zq rfl z)),(show l 126=(.int .u16 (ix o a)) from bM.1 (zq rfl z))]<;>rfl) ((by have aN:=(r9 cx (zq I z));exact yl  aN)) (fun _ _ h=>h))
 rintro l ag k m ⟨n,t,_⟩;exact zw (Gj:=true) (Bj:=decide (p≤B)) rfl rfl rfl (ji (t rfl)) rfl (fun I z=>zl (iy (show l 127=(.bool (aL.getD default)) from(n rfl).1 (zq rfl z))));rintro l am k m ⟨n,t,_⟩
 exact zh rfl rfl rfl (zl (xk (n rfl) (fun hb=>(show l 128=(.bool (!(aL.getD default))) from(t rfl).1 (zq rfl hb))) rfl));intro fh cy fi cz fj cA fk cB fm fn fo fp fq fr fs ft fu fv fw fx fy fz fC fD fE fF fG fH fI cC;obtain rfl:=Eq.symm cy;obtain rfl:=Eq.symm cz;obtain rfl:=Eq.symm cA
 obtain rfl:=Eq.symm cB;obtain rfl:=Eq.symm cC;refine za (q9 rfl H (fun H=>?_) (fun H=>?_));refine qc (qd (zz (zg (vi B) ?_)));obtain⟨cD,H⟩:=ze H;refine zx (ul rfl rfl cD) (zi (vi (B-1)) (za ?_));exact⟨dkt,bg,jo,(aS,B-1),Nat.lt_succ_self _,⟨rfl,trivial⟩,prm,H,trivial⟩
 refine jr ?_;exact⟨dkt,(ak.trans bg),jo,B,⟨rfl,trivial⟩,prm,(Option.some.inj H).symm,trivial⟩;rintro G fJ fK Y ⟨rfl,_⟩;refine q8 (zu (zg (vi p) (zg (vi G) (zx (l5 rfl rfl) (za (q9 rfl q (fun q=>?_) (fun q=>?_)))))));refine jr ?_
 exact⟨dkt,((bI.trans M).trans Y),jo,((G,o),an),⟨rfl,trivial⟩,prm,(Option.some.inj q).symm,(V.mono (M.trans Y)),trivial⟩;refine qc (q8 ?_);obtain⟨bh,bi,bj,bk,q⟩:=zpx q
 refine z0i [13,15] [(fun es=>phX d),(fun es=>phX (vi p)),(fun es=>phX d),(fun es=>phX (vi G)),(fun es=>phX d),(fun es=>phX (vi G)),(fun es=>(fun u _=>yw (qa .u16) d o u G.toNat)),(fun es=>phX (.int .u16 (ix o G))),(fun es=>phX d),(fun es=>phX (vi p)),(fun es=>(fun u _=>yw (qa .u16) d o u p.toNat)),(fun es=>phX (.int .u16 (ix o p))),(fun es=>(fun u _=>yw (qa .u16) d o u p.toNat)),(fun es=>(fun _ _=>True)),(fun es=>(fun u _=>yw (qa .u16) d o u G.toNat)),(fun es=>(fun _ _=>True))] (fun fl es R O=>(fl=[false,false]∧O.Perm ([an]++A)∧True)∨(fl=[true,false]∧ ∃ (fA:Frag),O.Perm ([fA]++A)∧ORep (qa .u16) R fA d (up o p (ix o G))∧True)∨(fl=[true,true]∧ ∃ (fA:Frag),O.Perm ([fA]++A)∧ORep (qa .u16) R fA d (up (up o p (ix o G)) G (ix o p))∧True)) mixed (by kernel_rfl) ⟨(zk zf),(zk zf),(zk zf),(zk zf),(zk zf),(zk zf),(zk (fun _ _ _ _ h=>h)),(zk zf),(zk zf),(zk zf),(zk (fun _ _ _ _ h=>h)),(zk zf),(zk (fun _ _ _ _ h=>h)),(fun _ _ _ _ _ h=>h),(zk (fun _ _ _ _ h=>h)),(fun _ _ _ _ _ h=>h),trivial⟩ (by rintro fl es R R' O k (⟨rfl,s,_⟩|⟨rfl,fA,s,c,_⟩|⟨rfl,fA,s,c,_⟩);exact(.inl ⟨rfl,s,trivial⟩);exact(.inr (.inl ⟨rfl,fA,s,(c.mono k),trivial⟩));exact(.inr (.inr ⟨rfl,fA,s,(c.mono k),trivial⟩))) ⟨(fun _ _ _ _ _ h=>h),(fun _ _ _ _ _ h=>h),(fun _ _ _ _ _ h=>h),(fun _ _ _ _ _ h=>h),(fun _ _ _ _ _ h=>h),(fun _ _ _ _ _ h=>h),(fun _ _ _ _ _ h=>h),(fun _ _ _ _ _ h=>h),(fun _ _ _ _ _ h=>h),(fun _ _ _ _ _ h=>h),(fun _ _ _ _ _ h=>h),(fun _ _ _ _ _ h=>h),(fun _ _ _ _ _ h=>h),(fun _ _ _ _ _ h=>h),(fun _ _ _ _ _ h=>h),(fun _ _ _ _ _ h=>h),trivial⟩ (fun es=> .inl ⟨rfl,(List.Perm.refl _),trivial⟩) ⟨?_,?_,?_,?_,?_,?_,?_,?_,?_,?_,?_,?_,?_,?_,?_,?_,trivial⟩ fun cE bN=>?_
 intro l az fl O k m hd x y;exact zl (z8 (m 0 rfl));intro l aA fl O k m hd x y;exact zl (z8 (m 10 rfl));intro l aB fl O k m hd x y;obtain⟨n,_⟩:=hd;exact zl (z8 (m 0 rfl));intro l aC fl O k m hd x y;obtain⟨n,_⟩:=hd;exact zl (z8 (m 11 rfl));intro l aD fl O k m hd x y;exact zl (z8 (m 0 rfl))
 intro l aE fl O k m hd x y;exact zl (z8 (m 11 rfl));intro l aF fl O k m hd x y;obtain⟨n,t,_⟩:=hd;exact qj (i:=G.toNat) xm (n rfl) ((V.mono (M.trans Y)).mono k) (zm (t rfl) bh.1) (zy bh);intro l aG fl O k m hd x y;obtain⟨n,_⟩:=hd
 rcases y with⟨rfl,s,_⟩|⟨rfl,fA,s,c,_⟩|⟨rfl,fA,s,c,_⟩;exact uo s (j4 (jf (i:=G.toNat) (j:=0) gu ((V.mono (M.trans Y)).mono k) rfl rfl (n rfl) (zy bh)) (fun _ _ h=>qb.1 h));exact uz x (by kernel_rfl);exact uz x (by kernel_rfl);intro l aH fl O k m hd x y
 exact zl (z8 (m 0 rfl));intro l aI fl O k m hd x y;exact zl (z8 (m 10 rfl));intro l ae fl O k m hd x y;obtain⟨n,t,_⟩:=hd;exact qj (i:=p.toNat) xm (n rfl) ((V.mono (M.trans Y)).mono k) (zm (t rfl) bi.1) (zy bi);intro l af fl O k m hd x y;obtain⟨n,_⟩:=hd
 rcases y with⟨rfl,s,_⟩|⟨rfl,fA,s,c,_⟩|⟨rfl,fA,s,c,_⟩;exact uo s (j4 (jf (i:=p.toNat) (j:=0) gu ((V.mono (M.trans Y)).mono k) rfl rfl (n rfl) (zy bi)) (fun _ _ h=>qb.1 h));exact uz x (by kernel_rfl);exact uz x (by kernel_rfl);intro l T fl O k m hd x y
 obtain⟨n,t,X,d3,d4,d5,d6,d7,d8,d9,aa,ab,ac,ad,_⟩:=hd;exact qj (i:=p.toNat) xm (n rfl) ((V.mono (M.trans Y)).mono k) (zm (t rfl) bj.1) (zy bj);intro l ag fl O k m hd x hf y;obtain⟨n,t,X,d3,d4,d5,d6,d7,d8,d9,aa,ab,ac,ad,_⟩:=hd
 rcases y with⟨rfl,s,_⟩|⟨rfl,fA,s,c,_⟩|⟨rfl,fA,s,c,_⟩;refine vv s ?_;refine Eff.mono (uf (i:=p.toNat) (j:=0) gu ((V.mono (M.trans Y)).mono k) rfl rfl (n rfl) (zy bj) (t rfl) (qb.2 rfl)) ?_;rintro v R' O' hle' ⟨rfl,f,rfl,ho⟩;exact⟨trivial,.inr (.inl ⟨rfl,f,(List.Perm.refl _),ho,trivial⟩)⟩
 cases hf;cases hf;intro l am fl O k m hd x y;obtain⟨n,t,X,d3,d4,d5,d6,d7,d8,d9,aa,ab,ac,ad,ax,ay,_⟩:=hd;exact qj (i:=G.toNat) xm (n rfl) ((V.mono (M.trans Y)).mono k) (zm (t rfl) bk.1) (zy bk);intro l aP fl O k m hd x hf y;obtain⟨n,t,X,d3,d4,d5,d6,d7,d8,d9,aa,ab,ac,ad,ax,ay,bs,_⟩:=hd
 rcases y with⟨rfl,s,_⟩|⟨rfl,fA,s,c,_⟩|⟨rfl,fA,s,c,_⟩;exact uz x (by kernel_rfl);refine vv s ?_;refine Eff.mono (uf (i:=G.toNat) (j:=0) gu c rfl rfl (z0d (n rfl)) (by rw [up,List.length_set];exact zy bk) (t rfl) (qb.2 rfl)) ?_;rintro v R' O' hle' ⟨rfl,f,rfl,ho⟩
 exact⟨trivial,.inr (.inr ⟨rfl,f,(List.Perm.refl _),ho,trivial⟩)⟩;cases hf;intro fL fM fN fO fP fQ fR fS fT fU fV fW fX fY cF cG cH cI cJ cK fZ cL cM cN f0 cO f1 f2;rintro dt (⟨e,_⟩|⟨e,_⟩|⟨_,bz,s,bl,_⟩);cases e;cases e;refine⟨[],_,s,?_⟩
 replace bl:ORep (qa .u16) cE bz d (up (up o p (ix o G)) G (ix o p)):=bl;obtain rfl:=Eq.symm cF;obtain rfl:=Eq.symm cG;obtain rfl:=Eq.symm cH;obtain rfl:=Eq.symm cI;obtain rfl:=Eq.symm cJ;obtain rfl:=Eq.symm cK;obtain rfl:=Eq.symm cL;obtain rfl:=Eq.symm cM;obtain rfl:=Eq.symm cN;obtain rfl:=Eq.symm cO
 refine qo (zg (vi p) ?_);obtain⟨cP,q⟩:=ze q;refine zx (qx rfl rfl cP) (zi (vi (p+1)) (za (zz (zg (vi G) ?_))));obtain⟨cQ,q⟩:=ze q;refine zx (ul rfl rfl cQ) (zi (vi (G-1)) (za ?_))
 exact⟨dkt,((M.trans Y).trans bN),jo,(aQ,p+1,G-1,(up (up o p (ix o G)) G (ix o p)),bz),Nat.lt_succ_self _,⟨rfl,rfl,trivial⟩,prm,q,bl,trivial⟩;rintro⟨w,cR⟩ f3 f4 bO ⟨rfl,al,_⟩;refine q8 ?_;obtain⟨bm,bn,bo,bp,P⟩:=zpx P
 refine z0i [13,15] [(fun es=>phX d),(fun es=>phX (vi w.1)),(fun es=>phX d),(fun es=>phX (vi a)),(fun es=>phX d),(fun es=>phX (vi a)),(fun es=>(fun u _=>yw (qa .u16) d w.2 u a.toNat)),(fun es=>phX (.int .u16 (ix w.2 a))),(fun es=>phX d),(fun es=>phX (vi w.1)),(fun es=>(fun u _=>yw (qa .u16) d w.2 u w.1.toNat)),(fun es=>phX (.int .u16 (ix w.2 w.1))),(fun es=>(fun u _=>yw (qa .u16) d w.2 u w.1.toNat)),(fun es=>(fun _ _=>True)),(fun es=>(fun u _=>yw (qa .u16) d w.2 u a.toNat)),(fun es=>(fun _ _=>True))] (fun fl es R O=>(fl=[false,false]∧O.Perm ([cR]++A)∧True)∨(fl=[true,false]∧ ∃ (fA:Frag),O.Perm ([fA]++A)∧ORep (qa .u16) R fA d (up w.2 w.1 (ix w.2 a))∧True)∨(fl=[true,true]∧ ∃ (fA:Frag),O.Perm ([fA]++A)∧ORep (qa .u16) R fA d (up (up w.2 w.1 (ix w.2 a)) a (ix w.2 w.1))∧True)) mixed (by kernel_rfl) ⟨(zk zf),(zk zf),(zk zf),(zk zf),(zk zf),(zk zf),(zk (fun _ _ _ _ h=>h)),(zk zf),(zk zf),(zk zf),(zk (fun _ _ _ _ h=>h)),(zk zf),(zk (fun _ _ _ _ h=>h)),(fun _ _ _ _ _ h=>h),(zk (fun _ _ _ _ h=>h)),(fun _ _ _ _ _ h=>h),trivial⟩ (by rintro fl es R R' O k (⟨rfl,s,_⟩|⟨rfl,fA,s,c,_⟩|⟨rfl,fA,s,c,_⟩);exact(.inl ⟨rfl,s,trivial⟩);exact(.inr (.inl ⟨rfl,fA,s,(c.mono k),trivial⟩));exact(.inr (.inr ⟨rfl,fA,s,(c.mono k),trivial⟩))) ⟨(fun _ _ _ _ _ h=>h),(fun _ _ _ _ _ h=>h),(fun _ _ _ _ _ h=>h),(fun _ _ _ _ _ h=>h),(fun _ _ _ _ _ h=>h),(fun _ _ _ _ _ h=>h),(fun _ _ _ _ _ h=>h),(fun _ _ _ _ _ h=>h),(fun _ _ _ _ _ h=>h),(fun _ _ _ _ _ h=>h),(fun _ _ _ _ _ h=>h),(fun _ _ _ _ _ h=>h),(fun _ _ _ _ _ h=>h),(fun _ _ _ _ _ h=>h),(fun _ _ _ _ _ h=>h),(fun _ _ _ _ _ h=>h),trivial⟩ (fun es=> .inl ⟨rfl,(List.Perm.refl _),trivial⟩) ⟨?_,?_,?_,?_,?_,?_,?_,?_,?_,?_,?_,?_,?_,?_,?_,?_,trivial⟩ fun cS bP=>?_
 intro l az fl O k m hd x y;exact zl (z8 (m 0 rfl));intro l aA fl O k m hd x y;exact zl (z8 (m 11 rfl));intro l aB fl O k m hd x y;obtain⟨n,_⟩:=hd;exact zl (z8 (m 0 rfl));intro l aC fl O k m hd x y;obtain⟨n,_⟩:=hd;exact zl (z8 (m 1 rfl));intro l aD fl O k m hd x y;exact zl (z8 (m 0 rfl))
 intro l aE fl O k m hd x y;exact zl (z8 (m 1 rfl));intro l aF fl O k m hd x y;obtain⟨n,t,_⟩:=hd;exact qj (i:=a.toNat) xm (n rfl) (al.mono k) (zm (t rfl) bm.1) (zy bm);intro l aG fl O k m hd x y;obtain⟨n,_⟩:=hd;rcases y with⟨rfl,s,_⟩|⟨rfl,fA,s,c,_⟩|⟨rfl,fA,s,c,_⟩
 exact uo s (j4 (jf (i:=a.toNat) (j:=0) gu (al.mono k) rfl rfl (n rfl) (zy bm)) (fun _ _ h=>qb.1 h));exact uz x (by kernel_rfl);exact uz x (by kernel_rfl);intro l aH fl O k m hd x y;exact zl (z8 (m 0 rfl));intro l aI fl O k m hd x y;exact zl (z8 (m 11 rfl));intro l ae fl O k m hd x y
 obtain⟨n,t,_⟩:=hd;exact qj (i:=w.1.toNat) xm (n rfl) (al.mono k) (zm (t rfl) bn.1) (zy bn);intro l af fl O k m hd x y;obtain⟨n,_⟩:=hd;rcases y with⟨rfl,s,_⟩|⟨rfl,fA,s,c,_⟩|⟨rfl,fA,s,c,_⟩
 exact uo s (j4 (jf (i:=w.1.toNat) (j:=0) gu (al.mono k) rfl rfl (n rfl) (zy bn)) (fun _ _ h=>qb.1 h));exact uz x (by kernel_rfl);exact uz x (by kernel_rfl);intro l T fl O k m hd x y;obtain⟨n,t,X,d3,d4,d5,d6,d7,d8,d9,aa,ab,ac,ad,_⟩:=hd
 exact qj (i:=w.1.toNat) xm (n rfl) (al.mono k) (zm (t rfl) bo.1) (zy bo);intro l ag fl O k m hd x hf y;obtain⟨n,t,X,d3,d4,d5,d6,d7,d8,d9,aa,ab,ac,ad,_⟩:=hd;rcases y with⟨rfl,s,_⟩|⟨rfl,fA,s,c,_⟩|⟨rfl,fA,s,c,_⟩;refine vv s ?_
 refine Eff.mono (uf (i:=w.1.toNat) (j:=0) gu (al.mono k) rfl rfl (n rfl) (zy bo) (t rfl) (qb.2 rfl)) ?_;rintro v R' O' hle' ⟨rfl,f,rfl,ho⟩;exact⟨trivial,.inr (.inl ⟨rfl,f,(List.Perm.refl _),ho,trivial⟩)⟩;cases hf;cases hf;intro l am fl O k m hd x y;obtain⟨n,t,X,d3,d4,d5,d6,d7,d8,d9,aa,ab,ac,ad,ax,ay,_⟩:=hd
 exact qj (i:=a.toNat) xm (n rfl) (al.mono k) (zm (t rfl) bp.1) (zy bp);intro l aP fl O k m hd x hf y;obtain⟨n,t,X,d3,d4,d5,d6,d7,d8,d9,aa,ab,ac,ad,ax,ay,bs,_⟩:=hd;rcases y with⟨rfl,s,_⟩|⟨rfl,fA,s,c,_⟩|⟨rfl,fA,s,c,_⟩;exact uz x (by kernel_rfl);refine vv s ?_
 refine Eff.mono (uf (i:=a.toNat) (j:=0) gu c rfl rfl (z0d (n rfl)) (by rw [up,List.length_set];exact zy bp) (t rfl) (qb.2 rfl)) ?_;rintro v R' O' hle' ⟨rfl,f,rfl,ho⟩;exact⟨trivial,.inr (.inr ⟨rfl,f,(List.Perm.refl _),ho,trivial⟩)⟩;cases hf
 intro f5 f6 f7 f8 f9 ga gb gc ge gf gg gh gi gj cT cU cV cW cX cY gk cZ c0 c1 gl c2 gm gn;rintro du (⟨e,_⟩|⟨e,_⟩|⟨_,bq,s,br,_⟩);cases e;cases e;refine⟨[],_,s,?_⟩;replace br:ORep (qa .u16) cS bq d (up (up w.2 w.1 (ix w.2 a)) a (ix w.2 w.1)):=br;obtain rfl:=Eq.symm cT
 obtain rfl:=Eq.symm cU;obtain rfl:=Eq.symm cV;obtain rfl:=Eq.symm cW;obtain rfl:=Eq.symm cX;obtain rfl:=Eq.symm cY;obtain rfl:=Eq.symm cZ;obtain rfl:=Eq.symm c0;obtain rfl:=Eq.symm c1;obtain rfl:=Eq.symm c2;refine qo (zg (vi w.1) (zi (vi w.1) (zi (.bool false) (za (ql ?_)))));obtain rfl:=Option.some.inj P
 refine yj (D:=[]) (J:=[]) (O':=[bq]) (rs:=[.tmp 8,.tmp 9]) (vs:=[(vi w.1),(.bool false)]) (((((bQ.trans K).trans U).trans bH).trans bO).trans bP) ((pk 0 rfl (List.Perm.refl _))) rfl ⟨rfl,rfl,trivial⟩ ?_;exact⟨bq,rfl,rfl,br⟩
theorem zzc:Enters prog 95:=enters_of func95 rfl (by kernel_rfl)
theorem zvy:Enters prog 68:=enters_of func68 rfl (by kernel_rfl)
theorem z3c{N:Nat}(F:Nat): ∀ {R:RH} {data:List Int} {c:Value} {fB:Frag} (G:ORep (qa .u16) R fB c data) {a:Int} {b:Int} {limit:Int} {r:List Int} (d:uh N F data a b limit=some r),CallG prog 68 #[c,(vi a),(vi b),(vi limit)] R [fB] (fun v R' O'=> ∃ H,v= .tuple #[]∧O'=[H]∧ORep (qa .u16) R' H c r):=by
  induction F with
  |zero=>intros;rename_i d;exact j3 d
  |succ F ih=>
    intro R data c fB G a b limit r d
    refine dn (args:=[c,(vi a),(vi b),(vi limit)]) func68 rfl rfl fun A=>?_
    rw [uh] at d
    refine q8 ?_
    refine zz ?_
    refine zi (.bool true) ?_
    refine za ?_
    refine q8 ?_
    refine zz ?_
    refine zi (.bool true) ?_
    refine za ?_
    refine qd ?_
    refine je (γ:=Nat×Int×Int×Int×Bool×Bool×(List Int)×Frag) (rs [1,4,8,134]) (fun g=>[(1,(vi g.2.1)),(2,(vi g.2.2.1)),(3,(vi g.2.2.2.1)),(8,(.bool g.2.2.2.2.1)),(9,(.bool g.2.2.2.2.2.1))]) (fun g=>[g.2.2.2.2.2.2.2]++A) (fun g R=>kw N (uh N F) g.1 g.2.1 g.2.2.1 g.2.2.2.1 g.2.2.2.2.1 g.2.2.2.2.2.1 g.2.2.2.2.2.2.1=some r∧ORep (qa .u16) R g.2.2.2.2.2.2.2 c g.2.2.2.2.2.2.1∧True) (fun g=>g.1) (N,a,b,limit,true,true,data,fB) prm ⟨d,G,trivial⟩ ?_
    clear d
    rintro⟨F1,f,m,x4,x5,x6,x7,U⟩ bX R8 aa ⟨d,V,_⟩
    rcases F1 with _|F1
    · exact j3 d
    replace d:kw N (uh N F) (F1+1) f m x4 x5 x6 x7=some r:=d;rw [kw] at d
    refine qd ?_
    refine q8 ?_
    refine zz ?_
    refine zg (vi m) ?_
    refine zg (vi f) ?_
    obtain⟨bh,d⟩:=ze d
    refine zx (ul rfl rfl bh) ?_
    refine zi (vi (m-f)) ?_
    refine za ?_
    refine q8 ?_
    refine q8 ?_
    refine zz ?_
    refine zg (vi (m-f)) ?_
    refine zx (z2h rfl rfl) ?_
    refine za ?_
    refine q9 rfl d (fun d=>?_) (fun d=>?_)
    · refine q8 ?_
      refine zz ?_
      refine zg c ?_
      refine zg (vi f) ?_
      refine zg (vi m) ?_
      obtain⟨cJ,bi,d⟩:=zt d
      refine o7 (Oc:=[U]) (Or:=[]++A) (cs:=[]) (vs:=[c,(vi f),(vi m)]) rfl zyc rfl rfl ((pk 0 rfl (List.Perm.refl _))) (z2l V bi) fun cK cL bY ai bj=>?_
      obtain⟨aj,rfl,rfl,bk⟩:=bj
      refine za ?_
      refine ql ?_
      obtain rfl:=Option.some.inj d
      refine yj (D:=[]) (J:=[]) (O':=[aj]) (rs:=[]) (vs:=[]) (aa.trans ai) ((pk 0 rfl (List.Perm.refl _))) rfl trivial ?_
      exact⟨aj,rfl,rfl,bk⟩
    · refine qc ?_
      refine q8 ?_
      refine q8 ?_
      refine zz ?_
      refine zg (vi x4) ?_
      refine zx (pg rfl rfl) ?_
      refine za ?_
      refine q9 rfl d (fun d=>?_) (fun d=>?_)
      · refine q8 ?_
        refine zz ?_
        refine zg c ?_
        refine zg (vi f) ?_
        refine zg (vi m) ?_
        obtain⟨cM,bl,d⟩:=zt d
        refine o7 (Oc:=[U]) (Or:=[]++A) (cs:=[]) (vs:=[c,(vi f),(vi m)]) rfl zy2 rfl rfl ((pk 0 rfl (List.Perm.refl _))) (z4c V bl) fun cN cO bZ ak bm=>?_
        obtain⟨al,rfl,rfl,bn⟩:=bm
        refine za ?_
        refine ql ?_
        obtain rfl:=Option.some.inj d
        refine yj (D:=[]) (J:=[]) (O':=[al]) (rs:=[]) (vs:=[]) (aa.trans ak) ((pk 0 rfl (List.Perm.refl _))) rfl trivial ?_
        exact⟨al,rfl,rfl,bn⟩
      · refine qc ?_
        obtain⟨t,k,d⟩:=zt d
        refine qz (γ:=(Int×List Int)×Frag) (rs [3,4,34,42]) (fun g=>[(3,(vi g.1.1))]) (fun g=>[g.2]++A) (fun g R=>t=g.1∧ORep (qa .u16) R g.2 c g.1.2∧True) ?_ ?_
        · refine q8 ?_
          refine zz ?_
          refine zg (.bool x5) ?_
          refine zx (iy rfl) ?_
          refine za ?_
          refine q9 rfl k (fun k=>?_) (fun k=>?_)
          · refine q8 ?_
            refine zz ?_
            refine zg c ?_
            refine zg (vi f) ?_
            refine zg (vi m) ?_
            obtain⟨bo,bp,k⟩:=zt k
            refine o7 (Oc:=[U]) (Or:=[]++A) (cs:=[]) (vs:=[c,(vi f),(vi m)]) rfl zyy rfl rfl ((pk 0 rfl (List.Perm.refl _))) (z2k V bp) fun cP cQ b0 am bq=>?_
            obtain⟨br,rfl,rfl,bs⟩:=bq
            refine za ?_
            refine zz ?_
            refine zg (vi x4) ?_
            obtain⟨bt,k⟩:=ze k
            refine zx (ul rfl rfl bt) ?_
            refine zi (vi (x4-1)) ?_
            refine za ?_
            exact⟨dkt,am,jo,((x4-1,bo),br),⟨rfl,trivial⟩,prm,(Option.some.inj k).symm,bs,trivial⟩
          · refine qc ?_
            exact⟨dkt,(RH.le.refl _),jo,((x4,x7),U),⟨rfl,trivial⟩,prm,(Option.some.inj k).symm,V,trivial⟩
        · rintro⟨t,an⟩ cR cS I ⟨rfl,ab,_⟩
          refine q8 ?_
          refine zz ?_
          refine zg c ?_
          refine zg (vi f) ?_
          refine zg (vi m) ?_
          obtain⟨s,bu,d⟩:=zt d
          refine z8f (cs:=[]) (vs:=[c,(vi f),(vi m)]) (φ:=fun v=>v= .tuple #[(vi s.1),(vi s.2)]) rfl zzb rfl rfl (fun bv ao ap=>z3a (z7j ((z5d 0 rfl ab ao ap):VRep (vw (qa .u16)) bv c t.2)) bu) fun cT bw=>?_
          obtain rfl:=bw
          refine zg (.tuple #[(vi s.1),(vi s.2)]) ?_
          refine zx (qh rfl rfl) ?_
          refine zx (qh rfl rfl) ?_
          refine zi (vi s.1) ?_
          refine zi (vi s.2) ?_
          refine za ?_
          obtain⟨n,k,d⟩:=zt d
          refine qz (γ:=(Int×Int×List Int)×Frag) (rs [11,13,49,61]) (fun g=>[(11,(vi g.1.1)),(12,(vi g.1.2.1))]) (fun g=>[g.2]++A) (fun g R=>n=g.1∧ORep (qa .u16) R g.2 c g.1.2.2∧True) ?_ ?_
          · refine q8 ?_
            refine zz ?_
            refine zg (vi s.2) ?_
            refine zx (pg rfl rfl) ?_
            refine za ?_
            refine q9 rfl k (fun k=>?_) (fun k=>?_)
            · refine q8 ?_
              refine zz ?_
              refine zg c ?_
              refine zg (vi f) ?_
              refine zg (vi m) ?_
              obtain⟨bx,bz,k⟩:=zt k
              refine o7 (Oc:=[an]) (Or:=[]++A) (cs:=[]) (vs:=[c,(vi f),(vi m)]) rfl zxw rfl rfl ((pk 0 rfl (List.Perm.refl _))) (z2p ab bz) fun cU cV b1 aq bA=>?_
              obtain⟨bB,rfl,rfl,bC⟩:=bA
              refine za ?_
              refine q8 ?_
              refine zz ?_
              refine zg (vi m) ?_
              obtain⟨bD,k⟩:=ze k
              refine zx (ul rfl rfl bD) ?_
              refine zg (vi s.1) ?_
              refine zg (vi f) ?_
              obtain⟨bE,k⟩:=ze k
              refine zx (ul rfl rfl bE) ?_
              obtain⟨bF,k⟩:=ze k
              refine zx (ul rfl rfl bF) ?_
              refine zi (vi ((m-1)-(s.1-f))) ?_
              refine za ?_
              refine zz ?_
              refine zi (vi 1) ?_
              refine za ?_
              exact⟨dkt,aq,jo,(((m-1)-(s.1-f),1,bx),bB),⟨rfl,rfl,trivial⟩,prm,(Option.some.inj k).symm,bC,trivial⟩
            · refine qc ?_
              exact⟨dkt,(RH.le.refl _),jo,((s.1,s.2,t.2),an),⟨rfl,rfl,trivial⟩,prm,(Option.some.inj k).symm,ab,trivial⟩
          · rintro⟨n,ar⟩ cW cX K ⟨rfl,au,_⟩
            obtain⟨bG,k,d⟩:=zt d
            refine qz (γ:=(List Int)×Frag) (rs [61,73]) (fun g=>[]) (fun g=>[g.2]++A) (fun g R=>bG=Ex.go g.1∧ORep (qa .u16) R g.2 c g.1∧True) ?_ ?_
            · refine q8 ?_
              refine zz ?_
              refine jd (v:=(.bool x5)) rfl (z8 rfl) ?_
              refine jd (v:=(.bool x5)) rfl (z8 rfl) ?_
              refine qw rfl rfl rfl rfl (fun p=>qi (v:=(.bool x6)) (z8 rfl)) fun cY bH=>?_
              refine jd rfl (xk rfl (fun hb=>(bH.1 (zq rfl hb))) rfl) ?_
              refine jd (v:=(.bool (x5&&x6))) rfl (z8 rfl) ?_
              refine qw rfl rfl rfl rfl (fun p=>qi (v:=(vi n.2.1)) (z8 rfl)) fun cZ bI=>?_
              refine qw rfl rfl rfl rfl (fun p=>qi (pg (bI.1 (zq rfl p)) rfl)) fun c0 bJ=>?_
              refine jd rfl (xk rfl (fun hb=>(bJ.1 (zq rfl hb))) rfl) ?_
              refine za ?_
              refine q9 rfl k (fun k=>?_) (fun k=>?_)
              · refine q8 ?_
                refine zz ?_
                refine zg c ?_
                refine zg (vi f) ?_
                refine zg (vi m) ?_
                obtain⟨aw,ax,k⟩:=zt k
                refine o7 (Oc:=[ar]) (Or:=[]++A) (cs:=[]) (vs:=[c,(vi f),(vi m)]) rfl zy7 rfl rfl ((pk 0 rfl (List.Perm.refl _))) (z14 au ax) fun b2 b3 bK M ay=>?_
                obtain⟨O,rfl,rfl,W⟩:=ay
                refine za ?_
                refine q9 rfl k (fun k=>?_) (fun k=>?_)
                · refine ql ?_
                  replace d:=z06 k d
                  obtain rfl:=Option.some.inj d
                  refine yj (D:=[]) (J:=[]) (O':=[O]) (rs:=[]) (vs:=[]) (((aa.trans I).trans K).trans M) ((pk 0 rfl (List.Perm.refl _))) rfl trivial ?_
                  exact⟨O,rfl,rfl,W⟩
                · refine qc ?_
                  exact⟨dkt,M,jo,(aw.2,O),trivial,prm,(Option.some.inj k).symm,W,trivial⟩
              · refine qc ?_
                exact⟨dkt,(RH.le.refl _),jo,(n.2.2,ar),trivial,prm,(Option.some.inj k).symm,au,trivial⟩
            · rintro⟨x,az⟩ b4 c1 P ⟨rfl,L,_⟩
              replace d:=z0t d
              refine q8 ?_
              refine q8 ?_
              obtain⟨aA,Q,S,d⟩:=zri d
              obtain⟨B,aB,d⟩:=zt d
              refine o5 15 [] [phX (vi f),phX (.bool (decide (0<f))),phX (.bool (decide (0<f))),phG (true&&((decide (0<f))==true)) (phX c),phG (true&&((decide (0<f))==true)) (phX (vi f)),phG (true&&((decide (0<f))==true)) (phX (vi (f-1))),phG (true&&((decide (0<f))==true)) ((fun u _=>yw (qa .u16) c x u (f-1).toNat)),phG (true&&((decide (0<f))==true)) (phX (.int .u16 (ix x (f-1)))),phG (true&&((decide (0<f))==true)) (phX c),phG (true&&((decide (0<f))==true)) (phX (vi n.1)),phG (true&&((decide (0<f))==true)) ((fun u _=>yw (qa .u16) c x u n.1.toNat)),phG (true&&((decide (0<f))==true)) (phX (.int .u16 (ix x n.1))),phG (true&&((decide (0<f))==true)) (phX (.bool (B.getD default))),phG (true&&((decide (0<f))==true)) (phX (.bool (!(B.getD default)))),phX (.bool ((decide (0<f))&&(!(B.getD default))))] mixed (by kernel_rfl) (pu ⟨zf,zf,zf,(qp zf),(qp zf),(qp zf),(qp (fun _ _ _ _ h=>h)),(qp zf),(qp zf),(qp zf),(qp (fun _ _ _ _ h=>h)),(qp zf),(qp zf),(qp zf),zf,trivial⟩) ⟨?_,?_,?_,?_,?_,?_,?_,?_,?_,?_,?_,?_,?_,?_,?_,trivial⟩ fun b5 w=>?_
              · intro l c2 o y hd
                have a1:l 1=(vi f):=y 1 rfl
                exact zh rfl rfl rfl (zl (z8 a1))
              · rintro l c3 o y ⟨q,_⟩
                have bM:=q rfl
                exact zh rfl rfl rfl (zl (l5 bM rfl))
              · rintro l c4 o y ⟨q,_⟩
                have bN:=q rfl
                exact zh rfl rfl rfl (zl (z8 bN))
              · rintro l c5 o y ⟨q,_⟩
                have a0:l 0=c:=y 0 rfl
                exact zw (Gj:=true) (Bj:=decide (0<f)) rfl rfl rfl (ji (q rfl)) rfl (fun z p=>zl (z8 a0))
              · rintro l c6 o y ⟨q,_⟩
                have a1:l 1=(vi f):=y 1 rfl
                exact zw (Gj:=true) (Bj:=decide (0<f)) rfl rfl rfl (ji (q rfl)) rfl (fun z p=>zl (z8 a1))
              · rintro l c7 o y ⟨q,E,_⟩
                have aC:=q rfl
                exact zw (Gj:=true) (Bj:=decide (0<f)) rfl rfl rfl (ji (E rfl)) rfl (fun z p=>zl (ul (show l 77=(vi f) from aC.1 (zq rfl p)) rfl (aA (zq z p))))
              · rintro l c8 o y ⟨q,E,d2,_⟩
                have aE:=q rfl
                have aF:=E rfl
                exact zw (Gj:=true) (Bj:=decide (0<f)) rfl rfl rfl (ji (d2 rfl)) rfl (fun z p=>qj (i:=(f-1).toNat) xm (show l 76=c from aE.1 (zq rfl p)) (L.mono o) (zm (show l 78=(vi (f-1)) from aF.1 (zq rfl p)) (Q (zq z p)).1) (zy (Q (zq z p))))
              · rintro l c9 o y ⟨q,E,_⟩
                have aG:=q rfl
                exact zw (Gj:=true) (Bj:=decide (0<f)) rfl rfl rfl (ji (E rfl)) rfl (fun z p=>j4 (jf (i:=(f-1).toNat) (j:=0) gu (L.mono o) rfl rfl (aG.1 (zq rfl p)) (zy (Q (zq z p)))) (fun _ _ h=>qb.1 h))
              · rintro l da o y ⟨q,_⟩
                have a0:l 0=c:=y 0 rfl
                exact zw (Gj:=true) (Bj:=decide (0<f)) rfl rfl rfl (ji (q rfl)) rfl (fun z p=>zl (z8 a0))
              · rintro l db o y ⟨q,_⟩
                have bP:l 11=(vi n.1):=y 11 rfl
                exact zw (Gj:=true) (Bj:=decide (0<f)) rfl rfl rfl (ji (q rfl)) rfl (fun z p=>zl (z8 bP))
              · rintro l b6 o y ⟨q,E,d2,_⟩
                have aH:=q rfl
                have aI:=E rfl
                exact zw (Gj:=true) (Bj:=decide (0<f)) rfl rfl rfl (ji (d2 rfl)) rfl (fun z p=>qj (i:=n.1.toNat) xm (show l 81=c from aH.1 (zq rfl p)) (L.mono o) (zm (show l 82=(vi n.1) from aI.1 (zq rfl p)) (S (zq z p)).1) (zy (S (zq z p))))
              · rintro l b7 o y ⟨q,E,_⟩
                have aJ:=q rfl
                exact zw (Gj:=true) (Bj:=decide (0<f)) rfl rfl rfl (ji (E rfl)) rfl (fun z p=>j4 (jf (i:=n.1.toNat) (j:=0) gu (L.mono o) rfl rfl (aJ.1 (zq rfl p)) (zy (S (zq z p)))) (fun _ _ h=>qb.1 h))
              · rintro l X o y ⟨q,E,d2,d3,_⟩
                have aK:phG (true&&((decide (0<f))==true)) (phX (.int .u16 (ix x (f-1)))) (l 80) X:=q rfl
                have aL:phG (true&&((decide (0<f))==true)) (phX (.int .u16 (ix x n.1))) (l 84) X:=E rfl
                exact zw (Gj:=true) (Bj:=decide (0<f)) rfl rfl rfl (ji (d2 rfl)) rfl (fun z p=>yh (vs:=[(.int .u16 (ix x (f-1))),(.int .u16 (ix x n.1))]) zc2 (by simp only [List.map,ev,(show l 80=(.int .u16 (ix x (f-1))) from aK.1 (zq rfl p)),(show l 84=(.int .u16 (ix x n.1)) from aL.1 (zq rfl p))]<;>rfl) ((by have bQ:=(r9 aB (zq z p));exact yl  bQ)) (fun _ _ h=>h))
              · rintro l b8 o y ⟨q,E,_⟩
                have aM:=q rfl
                exact zw (Gj:=true) (Bj:=decide (0<f)) rfl rfl rfl (ji (E rfl)) rfl (fun z p=>zl (iy (show l 85=(.bool (B.getD default)) from aM.1 (zq rfl p))))
              · rintro l b9 o y ⟨q,E,_⟩
                have bR:=q rfl
                have aN:=E rfl
                exact zh rfl rfl rfl (zl (xk bR (fun hb=>(show l 86=(.bool (!(B.getD default))) from aN.1 (zq rfl hb))) rfl))
              intro ca aO
              intro cb aP
              intro cc aQ
              intro cd ce
              intro cf cg
              intro ch ci
              intro cj ck
              intro cl cm
              intro cn co
              intro cp cq
              intro cr ct
              intro cu cv
              intro cw cx
              intro cy cz
              intro cA aR
              obtain rfl:=Eq.symm aO
              obtain rfl:=Eq.symm aP
              obtain rfl:=Eq.symm aQ
              obtain rfl:=Eq.symm aR
              refine za ?_
              refine q9 rfl d (fun d=>?_) (fun d=>?_)
              · refine q8 ?_
                refine zz ?_
                refine zg c ?_
                refine zg (vi f) ?_
                refine zg (vi m) ?_
                refine zg (vi n.1) ?_
                obtain⟨C,aS,d⟩:=zt d
                refine o7 (Oc:=[az]) (Or:=[]++A) (cs:=[]) (vs:=[c,(vi f),(vi m),(vi n.1)]) rfl zym rfl rfl ((pk 0 rfl (List.Perm.refl _))) (z2a (L.mono w) aS) fun cB cC bS ac aT=>?_
                obtain⟨aU,rfl,rfl,aV⟩:=aT
                refine zi (vi C.1) ?_
                refine za ?_
                refine q8 ?_
                refine zz ?_
                refine zg (vi C.1) ?_
                refine zi (vi C.1) ?_
                refine za ?_
                refine jr ?_
                exact⟨dkt,((((I.trans K).trans P).trans w).trans ac),jo,(F1,C.1,m,t.1,x5,x6,C.2,aU),Nat.lt_succ_self _,⟨rfl,rfl,rfl,rfl,rfl,trivial⟩,prm,d,aV,trivial⟩
              · refine qc ?_
                refine q8 ?_
                refine zz ?_
                refine zg c ?_
                refine zg (vi f) ?_
                refine zg (vi m) ?_
                refine zg (vi n.1) ?_
                obtain⟨e,aW,d⟩:=zt d
                refine o7 (Oc:=[az]) (Or:=[]++A) (cs:=[]) (vs:=[c,(vi f),(vi m),(vi n.1)]) rfl zzc rfl rfl ((pk 0 rfl (List.Perm.refl _))) (z3w (L.mono w) aW) fun cD cE bT T aX=>?_
                obtain⟨Y,rfl,rfl,Z⟩:=aX
                refine zg (.tuple #[(vi e.1),(.bool e.2.1)]) ?_
                refine zx (qh rfl rfl) ?_
                refine zx (qh rfl rfl) ?_
                refine zi (vi e.1) ?_
                refine zi (.bool e.2.1) ?_
                refine za ?_
                refine q8 ?_
                refine zz ?_
                refine zg (.bool e.2.1) ?_
                refine zi (.bool e.2.1) ?_
                refine za ?_
                refine q8 ?_
                refine zz ?_
                refine zg (vi e.1) ?_
                refine zg (vi f) ?_
                obtain⟨aY,d⟩:=ze d
                refine zx (ul rfl rfl aY) ?_
                refine zg (vi m) ?_
                refine zg (vi e.1) ?_
                obtain⟨aZ,d⟩:=ze d
                refine zx (ul rfl rfl aZ) ?_
                refine zi (vi (e.1-f)) ?_
                refine zi (vi (m-e.1)) ?_
                refine za ?_
                refine q8 ?_
                refine zz ?_
                refine zg (vi (m-f)) ?_
                obtain⟨a2,d⟩:=ze d
                refine zx (z6j rfl rfl a2) ?_
                refine zi (vi ((m-f)/8)) ?_
                refine za ?_
                refine q8 ?_
                refine zz ?_
                refine zg (vi (e.1-f)) ?_
                refine zg (vi (m-e.1)) ?_
                refine zx (jv rfl rfl) ?_
                refine za ?_
                refine q9 rfl d (fun d=>?_) (fun d=>?_)
                · refine q8 ?_
                  refine zz ?_
                  refine zg (vi (e.1-f)) ?_
                  refine zg (vi ((m-f)/8)) ?_
                  refine zx (sj rfl rfl) ?_
                  refine zi (.bool (decide (((m-f)/8)≤(e.1-f)))) ?_
                  refine za ?_
                  refine q8 ?_
                  refine zz ?_
                  refine zg c ?_
                  refine zg (vi f) ?_
                  refine zg (vi e.1) ?_
                  refine zg (vi t.1) ?_
                  obtain⟨a3,a4,d⟩:=zt d
                  refine o7 (Oc:=[Y]) (Or:=[]++A) (cs:=[]) (vs:=[c,(vi f),(vi e.1),(vi t.1)]) rfl zvy rfl rfl ((pk 0 rfl (List.Perm.refl _))) (ih Z a4) fun cF cG bU ad a5=>?_
                  obtain⟨a6,rfl,rfl,a7⟩:=a5
                  refine za ?_
                  refine zz ?_
                  refine zg (vi e.1) ?_
                  obtain⟨a8,d⟩:=ze d
                  refine zx (qx rfl rfl a8) ?_
                  refine zi (vi (e.1+1)) ?_
                  refine za ?_
                  exact⟨dkt,(((((I.trans K).trans P).trans w).trans T).trans ad),jo,(F1,e.1+1,m,t.1,decide (((m-f)/8)≤(e.1-f)),e.2.1,a3,a6),Nat.lt_succ_self _,⟨rfl,rfl,rfl,rfl,rfl,trivial⟩,prm,d,a7,trivial⟩
                · refine q8 ?_
                  refine zz ?_
                  refine zg (vi (m-e.1)) ?_
                  refine zg (vi ((m-f)/8)) ?_
                  refine zx (sj rfl rfl) ?_
                  refine zi (.bool (decide (((m-f)/8)≤(m-e.1)))) ?_
                  refine za ?_
                  refine q8 ?_
                  refine zz ?_
                  refine zg c ?_
                  refine zg (vi e.1) ?_
                  obtain⟨a9,d⟩:=ze d
                  refine zx (qx rfl rfl a9) ?_
                  refine zg (vi m) ?_
                  refine zg (vi t.1) ?_
                  obtain⟨ba,bb,d⟩:=zt d
                  refine o7 (Oc:=[Y]) (Or:=[]++A) (cs:=[]) (vs:=[c,(vi (e.1+1)),(vi m),(vi t.1)]) rfl zvy rfl rfl ((pk 0 rfl (List.Perm.refl _))) (ih Z bb) fun cH cI bV ae bc=>?_
                  obtain⟨be,rfl,rfl,bf⟩:=bc
                  refine za ?_
                  refine zz ?_
                  refine zg (vi e.1) ?_
                  refine zi (vi e.1) ?_
                  refine za ?_
                  exact⟨dkt,(((((I.trans K).trans P).trans w).trans T).trans ae),jo,(F1,f,e.1,t.1,decide (((m-f)/8)≤(m-e.1)),e.2.1,ba,be),Nat.lt_succ_self _,⟨rfl,rfl,rfl,rfl,rfl,trivial⟩,prm,d,bf,trivial⟩
theorem z4h{N:Nat}{R:RH}{data:List Int}{c:Value}{fB:Frag}(e:ORep (qa .u16) R fB c data){a:Int}{b:Int}{limit:Int}{r:List Int}(f:uh N N data a b limit=some r):CallG prog 68 #[c,(vi a),(vi b),(vi limit)] R [fB] (fun v R' O'=> ∃ d,v= .tuple #[]∧O'=[d]∧ORep (qa .u16) R' d c r):=z3c N e f
end GV
end Go.Proofs.Ytjmlpkkbmnjhcaa
