import Derived.Test.YtjmlpkkbmnjhcaaGreatShWc
import Derived.Test.YtjmlpkkbmnjhcaaGreatRows
set_option linter.unusedVariables false
set_option linter.unusedSimpArgs false
set_option linter.unusedSectionVars false
namespace Go.Proofs.YtjmlpkkbmnjhcaaGreat
namespace GV
open _root_.Go.Proofs.Tryz
open Go.IntWalk
set_option maxRecDepth 100000
set_option maxHeartbeats 20000000
theorem q9b:Enters prog 116:=enters_of func116 rfl (by kernel_rfl)
theorem z9p{N:Nat}{R:RH}{data:List Int}{d:Value}{fF:Frag}(Z:ORep (zz .u16) R fF d data){a:Int}{b:Int}{pivot:Int}{r:Int×Bool×List Int}(P:z0c N data a b pivot=some r):CallG prog 117 #[d,(vi a),(vi b),(vi pivot)] R [fF] (fun v R' O'=> ∃ aO,v= .tuple #[(vi r.1),(.bool r.2.1)]∧O'=[aO]∧ORep (zz .u16) R' aO d r.2.2):=by
 refine l9 (args:=[d,(vi a),(vi b),(vi pivot)]) func117 rfl rfl fun A=>?_;rw [z0c] at P;refine zq (zk (vi 0) (zk (.bool false) (ze (qc ?_))));obtain⟨g1,g2,g3,g4,P⟩:=q1c P
 refine z5y [13,15] [(fun es=>phX d),(fun es=>phX (vi a)),(fun es=>phX d),(fun es=>phX (vi pivot)),(fun es=>phX d),(fun es=>phX (vi pivot)),(fun es=>(fun u _=>gy (zz .u16) d data u pivot.toNat)),(fun es=>phX (.int .u16 (ix data pivot))),(fun es=>phX d),(fun es=>phX (vi a)),(fun es=>(fun u _=>gy (zz .u16) d data u a.toNat)),(fun es=>phX (.int .u16 (ix data a))),(fun es=>(fun u _=>gy (zz .u16) d data u a.toNat)),(fun es=>(fun _ _=>True)),(fun es=>(fun u _=>gy (zz .u16) d data u pivot.toNat)),(fun es=>(fun _ _=>True))] (fun fl es R O=>(fl=[false,false]∧O.Perm ([fF]++A)∧True)∨(fl=[true,false]∧ ∃ (fA:Frag),O.Perm ([fA]++A)∧ORep (zz .u16) R fA d (up data a (ix data pivot))∧True)∨(fl=[true,true]∧ ∃ (fA:Frag),O.Perm ([fA]++A)∧ORep (zz .u16) R fA d (up (up data a (ix data pivot)) pivot (ix data a))∧True)) mixed (by kernel_rfl) ⟨(q9 zi),(q9 zi),(q9 zi),(q9 zi),(q9 zi),(q9 zi),(q9 (fun _ _ _ _ h=>h)),(q9 zi),(q9 zi),(q9 zi),(q9 (fun _ _ _ _ h=>h)),(q9 zi),(q9 (fun _ _ _ _ h=>h)),(fun _ _ _ _ _ h=>h),(q9 (fun _ _ _ _ h=>h)),(fun _ _ _ _ _ h=>h),trivial⟩ (by rintro fl es R R' O k (⟨rfl,s,_⟩|⟨rfl,fA,s,c,_⟩|⟨rfl,fA,s,c,_⟩);exact(.inl ⟨rfl,s,trivial⟩);exact(.inr (.inl ⟨rfl,fA,s,(c.mono k),trivial⟩));exact(.inr (.inr ⟨rfl,fA,s,(c.mono k),trivial⟩))) ⟨(fun _ _ _ _ _ h=>h),(fun _ _ _ _ _ h=>h),(fun _ _ _ _ _ h=>h),(fun _ _ _ _ _ h=>h),(fun _ _ _ _ _ h=>h),(fun _ _ _ _ _ h=>h),(fun _ _ _ _ _ h=>h),(fun _ _ _ _ _ h=>h),(fun _ _ _ _ _ h=>h),(fun _ _ _ _ _ h=>h),(fun _ _ _ _ _ h=>h),(fun _ _ _ _ _ h=>h),(fun _ _ _ _ _ h=>h),(fun _ _ _ _ _ h=>h),(fun _ _ _ _ _ h=>h),(fun _ _ _ _ _ h=>h),trivial⟩ (fun es=> .inl ⟨rfl,(List.Perm.refl _),trivial⟩) ⟨?_,?_,?_,?_,?_,?_,?_,?_,?_,?_,?_,?_,?_,?_,?_,?_,trivial⟩ fun R5 bR=>?_
 intro l az fl O k m hd x y;exact zo (z8 (m 0 rfl));intro l aA fl O k m hd x y;exact zo (z8 (m 1 rfl));intro l aB fl O k m hd x y;obtain⟨n,_⟩:=hd;exact zo (z8 (m 0 rfl));intro l aC fl O k m hd x y;obtain⟨n,_⟩:=hd;exact zo (z8 (m 3 rfl));intro l aD fl O k m hd x y;exact zo (z8 (m 0 rfl))
 intro l aE fl O k m hd x y;exact zo (z8 (m 3 rfl));intro l aF fl O k m hd x y;obtain⟨n,t,_⟩:=hd;exact je (i:=pivot.toNat) o7 (n rfl) (Z.mono k) (zt (t rfl) g1.1) (qd g1);intro l aG fl O k m hd x y;obtain⟨n,_⟩:=hd;rcases y with⟨rfl,s,_⟩|⟨rfl,fA,s,c,_⟩|⟨rfl,fA,s,c,_⟩
 exact xn s (jm (uj (i:=pivot.toNat) (j:=0) og (Z.mono k) rfl rfl (n rfl) (qd g1)) (fun _ _ h=>ql.1 h));exact gq x (by kernel_rfl);exact gq x (by kernel_rfl);intro l aH fl O k m hd x y;exact zo (z8 (m 0 rfl));intro l aI fl O k m hd x y;exact zo (z8 (m 1 rfl));intro l ae fl O k m hd x y
 obtain⟨n,t,_⟩:=hd;exact je (i:=a.toNat) o7 (n rfl) (Z.mono k) (zt (t rfl) g2.1) (qd g2);intro l af fl O k m hd x y;obtain⟨n,_⟩:=hd;rcases y with⟨rfl,s,_⟩|⟨rfl,fA,s,c,_⟩|⟨rfl,fA,s,c,_⟩
 exact xn s (jm (uj (i:=a.toNat) (j:=0) og (Z.mono k) rfl rfl (n rfl) (qd g2)) (fun _ _ h=>ql.1 h));exact gq x (by kernel_rfl);exact gq x (by kernel_rfl);intro l T fl O k m hd x y;obtain⟨n,t,X,d3,d4,d5,d6,d7,d8,d9,aa,ab,ac,ad,_⟩:=hd
 exact je (i:=a.toNat) o7 (n rfl) (Z.mono k) (zt (t rfl) g3.1) (qd g3);intro l ag fl O k m hd x hf y;obtain⟨n,t,X,d3,d4,d5,d6,d7,d8,d9,aa,ab,ac,ad,_⟩:=hd;rcases y with⟨rfl,s,_⟩|⟨rfl,fA,s,c,_⟩|⟨rfl,fA,s,c,_⟩;refine ny s ?_
 refine Eff.mono (wu (i:=a.toNat) (j:=0) og (Z.mono k) rfl rfl (n rfl) (qd g3) (t rfl) (ql.2 rfl)) ?_;rintro v R' O' hle' ⟨rfl,f,rfl,ho⟩;exact⟨trivial,.inr (.inl ⟨rfl,f,(List.Perm.refl _),ho,trivial⟩)⟩;cases hf;cases hf;intro l am fl O k m hd x y;obtain⟨n,t,X,d3,d4,d5,d6,d7,d8,d9,aa,ab,ac,ad,ax,ay,_⟩:=hd
 exact je (i:=pivot.toNat) o7 (n rfl) (Z.mono k) (zt (t rfl) g4.1) (qd g4);intro l aP fl O k m hd x hf y;obtain⟨n,t,X,d3,d4,d5,d6,d7,d8,d9,aa,ab,ac,ad,ax,ay,bs,_⟩:=hd;rcases y with⟨rfl,s,_⟩|⟨rfl,fA,s,c,_⟩|⟨rfl,fA,s,c,_⟩;exact gq x (by kernel_rfl);refine ny s ?_
 refine Eff.mono (wu (i:=pivot.toNat) (j:=0) og c rfl rfl (z5f (n rfl)) (by rw [up,List.length_set];exact qd g4) (t rfl) (ql.2 rfl)) ?_;rintro v R' O' hle' ⟨rfl,f,rfl,ho⟩;exact⟨trivial,.inr (.inr ⟨rfl,f,(List.Perm.refl _),ho,trivial⟩)⟩;cases hf
 intro v7 v8 v9 gv gw gx gz gA gB gC gD gE gF gG c8 c9 da db dc dd gH de dg dh gI di gJ gK;rintro dx (⟨e,_⟩|⟨e,_⟩|⟨_,aM,s,W,_⟩);cases e;cases e;refine⟨[],_,s,?_⟩;replace W:ORep (zz .u16) R5 aM d (up (up data a (ix data pivot)) pivot (ix data a)):=W;obtain rfl:=Eq.symm c8;obtain rfl:=Eq.symm c9;obtain rfl:=Eq.symm da
 obtain rfl:=Eq.symm db;obtain rfl:=Eq.symm dc;obtain rfl:=Eq.symm dd;obtain rfl:=Eq.symm de;obtain rfl:=Eq.symm dg;obtain rfl:=Eq.symm dh;obtain rfl:=Eq.symm di;refine jb (zh (vi a) ?_);obtain⟨dj,P⟩:=zg P;refine zx (ja rfl rfl dj) (zh (vi b) ?_);obtain⟨dk,P⟩:=zg P
 refine zx (ww rfl rfl dk) (zk (vi (a+1)) (zk (vi (b-1)) (ze ?_)));obtain⟨E,q,P⟩:=zu P;refine qz (γ:=Int) (rs [10,11,30,46]) (fun g=>[(10,(vi g))]) (fun g=>[aM]++A) (fun g R=>E=g∧True) ?_ ?_
 refine qj (jf (γ:=Nat×Int) (rs [10,11,30,46]) (fun g=>[(10,(vi g.2))]) (fun g=>[aM]++A) (fun g R=>gm N data a b pivot g.1 g.2=some E∧True) (fun g=>g.1) (N,a+1) prm ⟨q,trivial⟩ ?_);clear q;rintro⟨bt,Q⟩ gL gM aJ ⟨q,_⟩;rcases bt with _|bt;exact j5 q
 replace q:gm N data a b pivot (bt+1) Q=some E:=q;rw [gm] at q;refine qc (qc ?_);obtain⟨bB,bC,q⟩:=q1v q;obtain⟨bD,dl,q⟩:=zu q;let G1:=(true&&((decide (Q≤(b-1)))==true))
 refine xq 14 [] [phX (vi Q),phX (vi (b-1)),phX (.bool (decide (Q≤(b-1)))),phX (.bool (decide (Q≤(b-1)))),phG G1 (phX d),phG G1 (phX (vi Q)),phG G1 ((fun u _=>gy (zz .u16) d (up (up data a (ix data pivot)) pivot (ix data a)) u Q.toNat)),phG G1 (phX (.int .u16 (ix (up (up data a (ix data pivot)) pivot (ix data a)) Q))),phG G1 (phX d),phG G1 (phX (vi a)),phG G1 ((fun u _=>gy (zz .u16) d (up (up data a (ix data pivot)) pivot (ix data a)) u a.toNat)),phG G1 (phX (.int .u16 (ix (up (up data a (ix data pivot)) pivot (ix data a)) a))),phG G1 (phX (.bool (bD.getD default))),phX (.bool ((decide (Q≤(b-1)))&&(bD.getD default)))] mixed (by kernel_rfl) (wz ⟨zi,zi,zi,zi,(qy zi),(qy zi),(qy (fun _ _ _ _ h=>h)),(qy zi),(qy zi),(qy zi),(qy (fun _ _ _ _ h=>h)),(qy zi),(qy zi),zi,trivial⟩) ⟨?_,?_,?_,?_,?_,?_,?_,?_,?_,?_,?_,?_,?_,?_,trivial⟩ fun gN bv=>?_
 intro l az k m hd;exact zf rfl rfl rfl (zo (z8 (m 10 rfl)));intro l aA k m hd;exact zf rfl rfl rfl (zo (z8 (m 11 rfl)));rintro l aB k m ⟨n,t,_⟩;exact zf rfl rfl rfl (zo (z5q (n rfl) (t rfl)));rintro l aC k m ⟨n,_⟩;exact zf rfl rfl rfl (zo (z8 (n rfl)));rintro l aD k m ⟨n,_⟩
 exact zw (Gj:=true) (Bj:=decide (Q≤(b-1))) rfl rfl rfl (jr (n rfl)) rfl (fun I z=>zo (z8 (m 0 rfl)));rintro l aE k m ⟨n,_⟩;exact zw (Gj:=true) (Bj:=decide (Q≤(b-1))) rfl rfl rfl (jr (n rfl)) rfl (fun I z=>zo (z8 (m 10 rfl)));rintro l aF k m ⟨n,t,X,_⟩
 exact zw (Gj:=true) (Bj:=decide (Q≤(b-1))) rfl rfl rfl (jr (X rfl)) rfl (fun I z=>je (i:=Q.toNat) o7 (show l 34=d from(n rfl).1 (zl rfl z)) ((W.mono aJ).mono k) (zt (show l 35=(vi Q) from(t rfl).1 (zl rfl z)) (bB (zl I z)).1) (qd (bB (zl I z))));rintro l aG k m ⟨n,t,_⟩
 exact zw (Gj:=true) (Bj:=decide (Q≤(b-1))) rfl rfl rfl (jr (t rfl)) rfl (fun I z=>jm (uj (i:=Q.toNat) (j:=0) og ((W.mono aJ).mono k) rfl rfl ((n rfl).1 (zl rfl z)) (qd (bB (zl I z)))) (fun _ _ h=>ql.1 h));rintro l aH k m ⟨n,_⟩
 exact zw (Gj:=true) (Bj:=decide (Q≤(b-1))) rfl rfl rfl (jr (n rfl)) rfl (fun I z=>zo (z8 (m 0 rfl)));rintro l aI k m ⟨n,_⟩;exact zw (Gj:=true) (Bj:=decide (Q≤(b-1))) rfl rfl rfl (jr (n rfl)) rfl (fun I z=>zo (z8 (m 1 rfl)));rintro l ae k m ⟨n,t,X,_⟩
 exact zw (Gj:=true) (Bj:=decide (Q≤(b-1))) rfl rfl rfl (jr (X rfl)) rfl (fun I z=>je (i:=a.toNat) o7 (show l 38=d from(n rfl).1 (zl rfl z)) ((W.mono aJ).mono k) (zt (show l 39=(vi a) from(t rfl).1 (zl rfl z)) (bC (zl I z)).1) (qd (bC (zl I z))));rintro l af k m ⟨n,t,_⟩
 exact zw (Gj:=true) (Bj:=decide (Q≤(b-1))) rfl rfl rfl (jr (t rfl)) rfl (fun I z=>jm (uj (i:=a.toNat) (j:=0) og ((W.mono aJ).mono k) rfl rfl ((n rfl).1 (zl rfl z)) (qd (bC (zl I z)))) (fun _ _ h=>ql.1 h));rintro l T k m ⟨n,t,X,d3,_⟩
 have bS:phG G1 (phX (.int .u16 (ix (up (up data a (ix data pivot)) pivot (ix data a)) Q))) (l 37) T:=n rfl;have bT:phG G1 (phX (.int .u16 (ix (up (up data a (ix data pivot)) pivot (ix data a)) a))) (l 41) T:=t rfl
 exact zw (Gj:=true) (Bj:=decide (Q≤(b-1))) rfl rfl rfl (jr (X rfl)) rfl (fun I z=>kz (vs:=[(.int .u16 (ix (up (up data a (ix data pivot)) pivot (ix data a)) Q)),(.int .u16 (ix (up (up data a (ix data pivot)) pivot (ix data a)) a))]) zcc (by simp only [List.map,ev,(show l 37=(.int .u16 (ix (up (up data a (ix data pivot)) pivot (ix data a)) Q)) from bS.1 (zl rfl z)),(show l 41=(.int .u16 (ix (up (up data a (ix data pivot)) pivot (ix data a)) a)) from bT.1 (zl rfl z))]<;>rfl) ((by have aN:=(sj dl (zl I z));exact df  aN)) (fun _ _ h=>h))
 rintro l ag k m ⟨n,t,_⟩;exact zf rfl rfl rfl (zo (uw (n rfl) (fun hb=>(show l 42=(.bool (bD.getD default)) from(t rfl).1 (zl rfl hb))) rfl));intro gO dm gP dn gQ dp gR dq gS gT gU gV gW gX gY gZ g0 g5 g6 g7 g8 g9 hc he hg hh hi dr;obtain rfl:=Eq.symm dm;obtain rfl:=Eq.symm dn;obtain rfl:=Eq.symm dp;obtain rfl:=Eq.symm dq
 obtain rfl:=Eq.symm dr;refine ze (zy rfl q (fun q=>?_) (fun q=>?_));refine qi (qj (q8 (zh (vi Q) ?_)));obtain⟨ds,q⟩:=zg q;refine zx (ja rfl rfl ds) (zk (vi (Q+1)) (ze ?_));exact⟨dkt,bv,ji,(bt,Q+1),Nat.lt_succ_self _,⟨rfl,trivial⟩,prm,q,trivial⟩;refine jk ?_
 exact⟨dkt,(aJ.trans bv),ji,Q,⟨rfl,trivial⟩,prm,(Option.some.inj q).symm,trivial⟩;rintro E hj hl K ⟨rfl,_⟩;obtain⟨F,q,P⟩:=zu P;refine qz (γ:=Int) (rs [11,12,46,63]) (fun g=>[(11,(vi g))]) (fun g=>[aM]++A) (fun g R=>F=g∧True) ?_ ?_
 refine qj (jf (γ:=Nat×Int) (rs [11,12,46,63]) (fun g=>[(11,(vi g.2))]) (fun g=>[aM]++A) (fun g R=>xy N data a pivot E g.1 g.2=some F∧True) (fun g=>g.1) (N,b-1) prm ⟨q,trivial⟩ ?_);clear q;rintro⟨bu,L⟩ dy hm aK ⟨q,_⟩;rcases bu with _|bu;exact j5 q
 replace q:xy N data a pivot E (bu+1) L=some F:=q;rw [xy] at q;refine qc (qc ?_);obtain⟨bF,bG,q⟩:=q1v q;obtain⟨aV,bU,q⟩:=zu q;let G4:=(true&&((decide (E≤L))==true))
 refine xq 15 [] [phX (vi E),phX (vi L),phX (.bool (decide (E≤L))),phX (.bool (decide (E≤L))),phG G4 (phX d),phG G4 (phX (vi L)),phG G4 ((fun u _=>gy (zz .u16) d (up (up data a (ix data pivot)) pivot (ix data a)) u L.toNat)),phG G4 (phX (.int .u16 (ix (up (up data a (ix data pivot)) pivot (ix data a)) L))),phG G4 (phX d),phG G4 (phX (vi a)),phG G4 ((fun u _=>gy (zz .u16) d (up (up data a (ix data pivot)) pivot (ix data a)) u a.toNat)),phG G4 (phX (.int .u16 (ix (up (up data a (ix data pivot)) pivot (ix data a)) a))),phG G4 (phX (.bool (aV.getD default))),phG G4 (phX (.bool (!(aV.getD default)))),phX (.bool ((decide (E≤L))&&(!(aV.getD default))))] mixed (by kernel_rfl) (wz ⟨zi,zi,zi,zi,(qy zi),(qy zi),(qy (fun _ _ _ _ h=>h)),(qy zi),(qy zi),(qy zi),(qy (fun _ _ _ _ h=>h)),(qy zi),(qy zi),(qy zi),zi,trivial⟩) ⟨?_,?_,?_,?_,?_,?_,?_,?_,?_,?_,?_,?_,?_,?_,?_,trivial⟩ fun dz aW=>?_
 intro l az k m hd;exact zf rfl rfl rfl (zo (z8 (m 10 rfl)));intro l aA k m hd;exact zf rfl rfl rfl (zo (z8 (m 11 rfl)));rintro l aB k m ⟨n,t,_⟩;exact zf rfl rfl rfl (zo (z5q (n rfl) (t rfl)));rintro l aC k m ⟨n,_⟩;exact zf rfl rfl rfl (zo (z8 (n rfl)));rintro l aD k m ⟨n,_⟩
 exact zw (Gj:=true) (Bj:=decide (E≤L)) rfl rfl rfl (jr (n rfl)) rfl (fun I z=>zo (z8 (m 0 rfl)));rintro l aE k m ⟨n,_⟩;exact zw (Gj:=true) (Bj:=decide (E≤L)) rfl rfl rfl (jr (n rfl)) rfl (fun I z=>zo (z8 (m 11 rfl)));rintro l aF k m ⟨n,t,X,_⟩
 exact zw (Gj:=true) (Bj:=decide (E≤L)) rfl rfl rfl (jr (X rfl)) rfl (fun I z=>je (i:=L.toNat) o7 (show l 50=d from(n rfl).1 (zl rfl z)) ((W.mono (K.trans aK)).mono k) (zt (show l 51=(vi L) from(t rfl).1 (zl rfl z)) (bF (zl I z)).1) (qd (bF (zl I z))));rintro l aG k m ⟨n,t,_⟩
 exact zw (Gj:=true) (Bj:=decide (E≤L)) rfl rfl rfl (jr (t rfl)) rfl (fun I z=>jm (uj (i:=L.toNat) (j:=0) og ((W.mono (K.trans aK)).mono k) rfl rfl ((n rfl).1 (zl rfl z)) (qd (bF (zl I z)))) (fun _ _ h=>ql.1 h));rintro l aH k m ⟨n,_⟩
 exact zw (Gj:=true) (Bj:=decide (E≤L)) rfl rfl rfl (jr (n rfl)) rfl (fun I z=>zo (z8 (m 0 rfl)));rintro l aI k m ⟨n,_⟩;exact zw (Gj:=true) (Bj:=decide (E≤L)) rfl rfl rfl (jr (n rfl)) rfl (fun I z=>zo (z8 (m 1 rfl)));rintro l ae k m ⟨n,t,X,_⟩
 exact zw (Gj:=true) (Bj:=decide (E≤L)) rfl rfl rfl (jr (X rfl)) rfl (fun I z=>je (i:=a.toNat) o7 (show l 54=d from(n rfl).1 (zl rfl z)) ((W.mono (K.trans aK)).mono k) (zt (show l 55=(vi a) from(t rfl).1 (zl rfl z)) (bG (zl I z)).1) (qd (bG (zl I z))));rintro l af k m ⟨n,t,_⟩
 exact zw (Gj:=true) (Bj:=decide (E≤L)) rfl rfl rfl (jr (t rfl)) rfl (fun I z=>jm (uj (i:=a.toNat) (j:=0) og ((W.mono (K.trans aK)).mono k) rfl rfl ((n rfl).1 (zl rfl z)) (qd (bG (zl I z)))) (fun _ _ h=>ql.1 h));rintro l T k m ⟨n,t,X,d3,_⟩
 have bV:phG G4 (phX (.int .u16 (ix (up (up data a (ix data pivot)) pivot (ix data a)) L))) (l 53) T:=n rfl;have bW:phG G4 (phX (.int .u16 (ix (up (up data a (ix data pivot)) pivot (ix data a)) a))) (l 57) T:=t rfl
 exact zw (Gj:=true) (Bj:=decide (E≤L)) rfl rfl rfl (jr (X rfl)) rfl (fun I z=>kz (vs:=[(.int .u16 (ix (up (up data a (ix data pivot)) pivot (ix data a)) L)),(.int .u16 (ix (up (up data a (ix data pivot)) pivot (ix data a)) a))]) zcc (by simp only [List.map,ev,(show l 53=(.int .u16 (ix (up (up data a (ix data pivot)) pivot (ix data a)) L)) from bV.1 (zl rfl z)),(show l 57=(.int .u16 (ix (up (up data a (ix data pivot)) pivot (ix data a)) a)) from bW.1 (zl rfl z))]<;>rfl) ((by have aN:=(sj bU (zl I z));exact df  aN)) (fun _ _ h=>h))
 rintro l ag k m ⟨n,t,_⟩;exact zw (Gj:=true) (Bj:=decide (E≤L)) rfl rfl rfl (jr (t rfl)) rfl (fun I z=>zo (fo (show l 58=(.bool (aV.getD default)) from(n rfl).1 (zl rfl z))));rintro l am k m ⟨n,t,_⟩
 exact zf rfl rfl rfl (zo (uw (n rfl) (fun hb=>(show l 59=(.bool (!(aV.getD default))) from(t rfl).1 (zl rfl hb))) rfl));intro dA bX dB bY dC bZ dD b0 dE dF dG dH dI dJ dK dL dM dN dO dP dQ dR dS dT dU dV dW dX dY b1;obtain rfl:=Eq.symm bX;obtain rfl:=Eq.symm bY;obtain rfl:=Eq.symm bZ
 obtain rfl:=Eq.symm b0;obtain rfl:=Eq.symm b1;refine ze (zy rfl q (fun q=>?_) (fun q=>?_));refine qi (qj (q8 (zh (vi L) ?_)));obtain⟨b2,q⟩:=zg q;refine zx (ww rfl rfl b2) (zk (vi (L-1)) (ze ?_));exact⟨dkt,aW,ji,(bu,L-1),Nat.lt_succ_self _,⟨rfl,trivial⟩,prm,q,trivial⟩
 refine jk ?_;exact⟨dkt,(aK.trans aW),ji,L,⟨rfl,trivial⟩,prm,(Option.some.inj q).symm,trivial⟩;rintro F dZ hn U ⟨rfl,_⟩;refine qc (zq (zh (vi E) (zh (vi F) (zx (l5 rfl rfl) (ze (zy rfl P (fun P=>?_) (fun P=>?_)))))));refine qc ?_;obtain⟨aX,aY,aZ,a0,P⟩:=q1c P
 refine z5y [13,15] [(fun es=>phX d),(fun es=>phX (vi F)),(fun es=>phX d),(fun es=>phX (vi a)),(fun es=>phX d),(fun es=>phX (vi a)),(fun es=>(fun u _=>gy (zz .u16) d (up (up data a (ix data pivot)) pivot (ix data a)) u a.toNat)),(fun es=>phX (.int .u16 (ix (up (up data a (ix data pivot)) pivot (ix data a)) a))),(fun es=>phX d),(fun es=>phX (vi F)),(fun es=>(fun u _=>gy (zz .u16) d (up (up data a (ix data pivot)) pivot (ix data a)) u F.toNat)),(fun es=>phX (.int .u16 (ix (up (up data a (ix data pivot)) pivot (ix data a)) F))),(fun es=>(fun u _=>gy (zz .u16) d (up (up data a (ix data pivot)) pivot (ix data a)) u F.toNat)),(fun es=>(fun _ _=>True)),(fun es=>(fun u _=>gy (zz .u16) d (up (up data a (ix data pivot)) pivot (ix data a)) u a.toNat)),(fun es=>(fun _ _=>True))] (fun fl es R O=>(fl=[false,false]∧O.Perm ([aM]++A)∧True)∨(fl=[true,false]∧ ∃ (fA:Frag),O.Perm ([fA]++A)∧ORep (zz .u16) R fA d (up (up (up data a (ix data pivot)) pivot (ix data a)) F (ix (up (up data a (ix data pivot)) pivot (ix data a)) a))∧True)∨(fl=[true,true]∧ ∃ (fA:Frag),O.Perm ([fA]++A)∧ORep (zz .u16) R fA d (up (up (up (up data a (ix data pivot)) pivot (ix data a)) F (ix (up (up data a (ix data pivot)) pivot (ix data a)) a)) a (ix (up (up data a (ix data pivot)) pivot (ix data a)) F))∧True)) mixed (by kernel_rfl) ⟨(q9 zi),(q9 zi),(q9 zi),(q9 zi),(q9 zi),(q9 zi),(q9 (fun _ _ _ _ h=>h)),(q9 zi),(q9 zi),(q9 zi),(q9 (fun _ _ _ _ h=>h)),(q9 zi),(q9 (fun _ _ _ _ h=>h)),(fun _ _ _ _ _ h=>h),(q9 (fun _ _ _ _ h=>h)),(fun _ _ _ _ _ h=>h),trivial⟩ (by rintro fl es R R' O k (⟨rfl,s,_⟩|⟨rfl,fA,s,c,_⟩|⟨rfl,fA,s,c,_⟩);exact(.inl ⟨rfl,s,trivial⟩);exact(.inr (.inl ⟨rfl,fA,s,(c.mono k),trivial⟩));exact(.inr (.inr ⟨rfl,fA,s,(c.mono k),trivial⟩))) ⟨(fun _ _ _ _ _ h=>h),(fun _ _ _ _ _ h=>h),(fun _ _ _ _ _ h=>h),(fun _ _ _ _ _ h=>h),(fun _ _ _ _ _ h=>h),(fun _ _ _ _ _ h=>h),(fun _ _ _ _ _ h=>h),(fun _ _ _ _ _ h=>h),(fun _ _ _ _ _ h=>h),(fun _ _ _ _ _ h=>h),(fun _ _ _ _ _ h=>h),(fun _ _ _ _ _ h=>h),(fun _ _ _ _ _ h=>h),(fun _ _ _ _ _ h=>h),(fun _ _ _ _ _ h=>h),(fun _ _ _ _ _ h=>h),trivial⟩ (fun es=> .inl ⟨rfl,(List.Perm.refl _),trivial⟩) ⟨?_,?_,?_,?_,?_,?_,?_,?_,?_,?_,?_,?_,?_,?_,?_,?_,trivial⟩ fun b3 bH=>?_
 intro l az fl O k m hd x y;exact zo (z8 (m 0 rfl));intro l aA fl O k m hd x y;exact zo (z8 (m 11 rfl));intro l aB fl O k m hd x y;obtain⟨n,_⟩:=hd;exact zo (z8 (m 0 rfl));intro l aC fl O k m hd x y;obtain⟨n,_⟩:=hd;exact zo (z8 (m 1 rfl));intro l aD fl O k m hd x y;exact zo (z8 (m 0 rfl))
 intro l aE fl O k m hd x y;exact zo (z8 (m 1 rfl));intro l aF fl O k m hd x y;obtain⟨n,t,_⟩:=hd;exact je (i:=a.toNat) o7 (n rfl) ((W.mono (K.trans U)).mono k) (zt (t rfl) aX.1) (qd aX);intro l aG fl O k m hd x y;obtain⟨n,_⟩:=hd
 rcases y with⟨rfl,s,_⟩|⟨rfl,fA,s,c,_⟩|⟨rfl,fA,s,c,_⟩;exact xn s (jm (uj (i:=a.toNat) (j:=0) og ((W.mono (K.trans U)).mono k) rfl rfl (n rfl) (qd aX)) (fun _ _ h=>ql.1 h));exact gq x (by kernel_rfl);exact gq x (by kernel_rfl);intro l aH fl O k m hd x y;exact zo (z8 (m 0 rfl))
 intro l aI fl O k m hd x y;exact zo (z8 (m 11 rfl));intro l ae fl O k m hd x y;obtain⟨n,t,_⟩:=hd;exact je (i:=F.toNat) o7 (n rfl) ((W.mono (K.trans U)).mono k) (zt (t rfl) aY.1) (qd aY);intro l af fl O k m hd x y;obtain⟨n,_⟩:=hd
 rcases y with⟨rfl,s,_⟩|⟨rfl,fA,s,c,_⟩|⟨rfl,fA,s,c,_⟩;exact xn s (jm (uj (i:=F.toNat) (j:=0) og ((W.mono (K.trans U)).mono k) rfl rfl (n rfl) (qd aY)) (fun _ _ h=>ql.1 h));exact gq x (by kernel_rfl);exact gq x (by kernel_rfl);intro l T fl O k m hd x y
 obtain⟨n,t,X,d3,d4,d5,d6,d7,d8,d9,aa,ab,ac,ad,_⟩:=hd;exact je (i:=F.toNat) o7 (n rfl) ((W.mono (K.trans U)).mono k) (zt (t rfl) aZ.1) (qd aZ);intro l ag fl O k m hd x hf y;obtain⟨n,t,X,d3,d4,d5,d6,d7,d8,d9,aa,ab,ac,ad,_⟩:=hd
 rcases y with⟨rfl,s,_⟩|⟨rfl,fA,s,c,_⟩|⟨rfl,fA,s,c,_⟩;refine ny s ?_;refine Eff.mono (wu (i:=F.toNat) (j:=0) og ((W.mono (K.trans U)).mono k) rfl rfl (n rfl) (qd aZ) (t rfl) (ql.2 rfl)) ?_;rintro v R' O' hle' ⟨rfl,f,rfl,ho⟩;exact⟨trivial,.inr (.inl ⟨rfl,f,(List.Perm.refl _),ho,trivial⟩)⟩;cases hf
 cases hf;intro l am fl O k m hd x y;obtain⟨n,t,X,d3,d4,d5,d6,d7,d8,d9,aa,ab,ac,ad,ax,ay,_⟩:=hd;exact je (i:=a.toNat) o7 (n rfl) ((W.mono (K.trans U)).mono k) (zt (t rfl) a0.1) (qd a0);intro l aP fl O k m hd x hf y;obtain⟨n,t,X,d3,d4,d5,d6,d7,d8,d9,aa,ab,ac,ad,ax,ay,bs,_⟩:=hd
 rcases y with⟨rfl,s,_⟩|⟨rfl,fA,s,c,_⟩|⟨rfl,fA,s,c,_⟩;exact gq x (by kernel_rfl);refine ny s ?_;refine Eff.mono (wu (i:=a.toNat) (j:=0) og c rfl rfl (z5f (n rfl)) (by rw [up,List.length_set];exact qd a0) (t rfl) (ql.2 rfl)) ?_;rintro v R' O' hle' ⟨rfl,f,rfl,ho⟩
 exact⟨trivial,.inr (.inr ⟨rfl,f,(List.Perm.refl _),ho,trivial⟩)⟩;cases hf;intro ea eb ec ed ee ef eg eh ei ej ek el em en b4 b5 b6 b7 b8 b9 eo ca cb cc ep cd eq er;rintro dt (⟨e,_⟩|⟨e,_⟩|⟨_,a1,s,a2,_⟩);cases e;cases e;refine⟨[],_,s,?_⟩
 replace a2:ORep (zz .u16) b3 a1 d (up (up (up (up data a (ix data pivot)) pivot (ix data a)) F (ix (up (up data a (ix data pivot)) pivot (ix data a)) a)) a (ix (up (up data a (ix data pivot)) pivot (ix data a)) F)):=a2;obtain rfl:=Eq.symm b4;obtain rfl:=Eq.symm b5;obtain rfl:=Eq.symm b6;obtain rfl:=Eq.symm b7;obtain rfl:=Eq.symm b8
 obtain rfl:=Eq.symm b9;obtain rfl:=Eq.symm ca;obtain rfl:=Eq.symm cb;obtain rfl:=Eq.symm cc;obtain rfl:=Eq.symm cd;refine jb (zh (vi F) (zk (vi F) (zk (.bool true) (ze (qp ?_)))));obtain rfl:=Option.some.inj P
 refine bz (D:=[]) (J:=[]) (O':=[a1]) (rs:=[.tmp 8,.tmp 9]) (vs:=[(vi F),(.bool true)]) (((bR.trans K).trans U).trans bH) ((pk 0 rfl (List.Perm.refl _))) rfl ⟨rfl,rfl,trivial⟩ ?_;exact⟨a1,rfl,rfl,a2⟩;refine qi (qc ?_);obtain⟨a3,a4,a5,a6,P⟩:=q1c P
 refine z5y [13,15] [(fun es=>phX d),(fun es=>phX (vi E)),(fun es=>phX d),(fun es=>phX (vi F)),(fun es=>phX d),(fun es=>phX (vi F)),(fun es=>(fun u _=>gy (zz .u16) d (up (up data a (ix data pivot)) pivot (ix data a)) u F.toNat)),(fun es=>phX (.int .u16 (ix (up (up data a (ix data pivot)) pivot (ix data a)) F))),(fun es=>phX d),(fun es=>phX (vi E)),(fun es=>(fun u _=>gy (zz .u16) d (up (up data a (ix data pivot)) pivot (ix data a)) u E.toNat)),(fun es=>phX (.int .u16 (ix (up (up data a (ix data pivot)) pivot (ix data a)) E))),(fun es=>(fun u _=>gy (zz .u16) d (up (up data a (ix data pivot)) pivot (ix data a)) u E.toNat)),(fun es=>(fun _ _=>True)),(fun es=>(fun u _=>gy (zz .u16) d (up (up data a (ix data pivot)) pivot (ix data a)) u F.toNat)),(fun es=>(fun _ _=>True))] (fun fl es R O=>(fl=[false,false]∧O.Perm ([aM]++A)∧True)∨(fl=[true,false]∧ ∃ (fA:Frag),O.Perm ([fA]++A)∧ORep (zz .u16) R fA d (up (up (up data a (ix data pivot)) pivot (ix data a)) E (ix (up (up data a (ix data pivot)) pivot (ix data a)) F))∧True)∨(fl=[true,true]∧ ∃ (fA:Frag),O.Perm ([fA]++A)∧ORep (zz .u16) R fA d (up (up (up (up data a (ix data pivot)) pivot (ix data a)) E (ix (up (up data a (ix data pivot)) pivot (ix data a)) F)) F (ix (up (up data a (ix data pivot)) pivot (ix data a)) E))∧True)) mixed (by kernel_rfl) ⟨(q9 zi),(q9 zi),(q9 zi),(q9 zi),(q9 zi),(q9 zi),(q9 (fun _ _ _ _ h=>h)),(q9 zi),(q9 zi),(q9 zi),(q9 (fun _ _ _ _ h=>h)),(q9 zi),(q9 (fun _ _ _ _ h=>h)),(fun _ _ _ _ _ h=>h),(q9 (fun _ _ _ _ h=>h)),(fun _ _ _ _ _ h=>h),trivial⟩ (by rintro fl es R R' O k (⟨rfl,s,_⟩|⟨rfl,fA,s,c,_⟩|⟨rfl,fA,s,c,_⟩);exact(.inl ⟨rfl,s,trivial⟩);exact(.inr (.inl ⟨rfl,fA,s,(c.mono k),trivial⟩));exact(.inr (.inr ⟨rfl,fA,s,(c.mono k),trivial⟩))) ⟨(fun _ _ _ _ _ h=>h),(fun _ _ _ _ _ h=>h),(fun _ _ _ _ _ h=>h),(fun _ _ _ _ _ h=>h),(fun _ _ _ _ _ h=>h),(fun _ _ _ _ _ h=>h),(fun _ _ _ _ _ h=>h),(fun _ _ _ _ _ h=>h),(fun _ _ _ _ _ h=>h),(fun _ _ _ _ _ h=>h),(fun _ _ _ _ _ h=>h),(fun _ _ _ _ _ h=>h),(fun _ _ _ _ _ h=>h),(fun _ _ _ _ _ h=>h),(fun _ _ _ _ _ h=>h),(fun _ _ _ _ _ h=>h),trivial⟩ (fun es=> .inl ⟨rfl,(List.Perm.refl _),trivial⟩) ⟨?_,?_,?_,?_,?_,?_,?_,?_,?_,?_,?_,?_,?_,?_,?_,?_,trivial⟩ fun ce bI=>?_
 intro l az fl O k m hd x y;exact zo (z8 (m 0 rfl));intro l aA fl O k m hd x y;exact zo (z8 (m 10 rfl));intro l aB fl O k m hd x y;obtain⟨n,_⟩:=hd;exact zo (z8 (m 0 rfl));intro l aC fl O k m hd x y;obtain⟨n,_⟩:=hd;exact zo (z8 (m 11 rfl));intro l aD fl O k m hd x y;exact zo (z8 (m 0 rfl))
 intro l aE fl O k m hd x y;exact zo (z8 (m 11 rfl));intro l aF fl O k m hd x y;obtain⟨n,t,_⟩:=hd;exact je (i:=F.toNat) o7 (n rfl) ((W.mono (K.trans U)).mono k) (zt (t rfl) a3.1) (qd a3);intro l aG fl O k m hd x y;obtain⟨n,_⟩:=hd
 rcases y with⟨rfl,s,_⟩|⟨rfl,fA,s,c,_⟩|⟨rfl,fA,s,c,_⟩;exact xn s (jm (uj (i:=F.toNat) (j:=0) og ((W.mono (K.trans U)).mono k) rfl rfl (n rfl) (qd a3)) (fun _ _ h=>ql.1 h));exact gq x (by kernel_rfl);exact gq x (by kernel_rfl);intro l aH fl O k m hd x y;exact zo (z8 (m 0 rfl))
 intro l aI fl O k m hd x y;exact zo (z8 (m 10 rfl));intro l ae fl O k m hd x y;obtain⟨n,t,_⟩:=hd;exact je (i:=E.toNat) o7 (n rfl) ((W.mono (K.trans U)).mono k) (zt (t rfl) a4.1) (qd a4);intro l af fl O k m hd x y;obtain⟨n,_⟩:=hd
 rcases y with⟨rfl,s,_⟩|⟨rfl,fA,s,c,_⟩|⟨rfl,fA,s,c,_⟩;exact xn s (jm (uj (i:=E.toNat) (j:=0) og ((W.mono (K.trans U)).mono k) rfl rfl (n rfl) (qd a4)) (fun _ _ h=>ql.1 h));exact gq x (by kernel_rfl);exact gq x (by kernel_rfl);intro l T fl O k m hd x y
 obtain⟨n,t,X,d3,d4,d5,d6,d7,d8,d9,aa,ab,ac,ad,_⟩:=hd;exact je (i:=E.toNat) o7 (n rfl) ((W.mono (K.trans U)).mono k) (zt (t rfl) a5.1) (qd a5);intro l ag fl O k m hd x hf y;obtain⟨n,t,X,d3,d4,d5,d6,d7,d8,d9,aa,ab,ac,ad,_⟩:=hd
 rcases y with⟨rfl,s,_⟩|⟨rfl,fA,s,c,_⟩|⟨rfl,fA,s,c,_⟩;refine ny s ?_;refine Eff.mono (wu (i:=E.toNat) (j:=0) og ((W.mono (K.trans U)).mono k) rfl rfl (n rfl) (qd a5) (t rfl) (ql.2 rfl)) ?_;rintro v R' O' hle' ⟨rfl,f,rfl,ho⟩;exact⟨trivial,.inr (.inl ⟨rfl,f,(List.Perm.refl _),ho,trivial⟩)⟩;cases hf
 cases hf;intro l am fl O k m hd x y;obtain⟨n,t,X,d3,d4,d5,d6,d7,d8,d9,aa,ab,ac,ad,ax,ay,_⟩:=hd;exact je (i:=F.toNat) o7 (n rfl) ((W.mono (K.trans U)).mono k) (zt (t rfl) a6.1) (qd a6);intro l aP fl O k m hd x hf y;obtain⟨n,t,X,d3,d4,d5,d6,d7,d8,d9,aa,ab,ac,ad,ax,ay,bs,_⟩:=hd
 rcases y with⟨rfl,s,_⟩|⟨rfl,fA,s,c,_⟩|⟨rfl,fA,s,c,_⟩;exact gq x (by kernel_rfl);refine ny s ?_;refine Eff.mono (wu (i:=F.toNat) (j:=0) og c rfl rfl (z5f (n rfl)) (by rw [up,List.length_set];exact qd a6) (t rfl) (ql.2 rfl)) ?_;rintro v R' O' hle' ⟨rfl,f,rfl,ho⟩
 exact⟨trivial,.inr (.inr ⟨rfl,f,(List.Perm.refl _),ho,trivial⟩)⟩;cases hf;intro et eu ew ex ey ez eA eB eC eD eE eF eG eH cf cg ch ci cj ck eI cl cm cn eJ co eK eL;rintro du (⟨e,_⟩|⟨e,_⟩|⟨_,bw,s,a7,_⟩);cases e;cases e;refine⟨[],_,s,?_⟩
 replace a7:ORep (zz .u16) ce bw d (up (up (up (up data a (ix data pivot)) pivot (ix data a)) E (ix (up (up data a (ix data pivot)) pivot (ix data a)) F)) F (ix (up (up data a (ix data pivot)) pivot (ix data a)) E)):=a7;obtain rfl:=Eq.symm cf;obtain rfl:=Eq.symm cg;obtain rfl:=Eq.symm ch;obtain rfl:=Eq.symm ci;obtain rfl:=Eq.symm cj
 obtain rfl:=Eq.symm ck;obtain rfl:=Eq.symm cl;obtain rfl:=Eq.symm cm;obtain rfl:=Eq.symm cn;obtain rfl:=Eq.symm co;refine jb (zh (vi E) ?_);obtain⟨cp,P⟩:=zg P;refine zx (ja rfl rfl cp) (zk (vi (E+1)) (jb (zh (vi F) ?_)));obtain⟨cq,P⟩:=zg P
 refine zx (ww rfl rfl cq) (zk (vi (F-1)) (ze ?_));obtain⟨w,q,P⟩:=zu P;refine qz (γ:=(Int×List Int)×Frag) (rs [10,12,99,153]) (fun g=>[(11,(vi g.1.1))]) (fun g=>[g.2]++A) (fun g R=>w=g.1∧ORep (zz .u16) R g.2 d g.1.2∧True) ?_ ?_
 refine qj (jf (γ:=Nat×Int×Int×(List Int)×Frag) (rs [10,12,99,153]) (fun g=>[(10,(vi g.2.1)),(11,(vi g.2.2.1))]) (fun g=>[g.2.2.2.2]++A) (fun g R=>xx N a g.1 g.2.1 g.2.2.1 g.2.2.2.1=some w∧ORep (zz .u16) R g.2.2.2.2 d g.2.2.2.1∧True) (fun g=>g.1) (N,E+1,F-1,(up (up (up (up data a (ix data pivot)) pivot (ix data a)) E (ix (up (up data a (ix data pivot)) pivot (ix data a)) F)) F (ix (up (up data a (ix data pivot)) pivot (ix data a)) E)),bw) prm ⟨q,a7,trivial⟩ ?_)
 clear q;rintro⟨aQ,bx,S,o,an⟩ eM eN bJ ⟨q,V,_⟩;rcases aQ with _|aQ;exact j5 q;replace q:xx N a (aQ+1) bx S o=some w:=q;rw [xx] at q;refine qj ?_;obtain⟨p,H,q⟩:=zu q
 refine qz (γ:=Int) (rs [10,11,99,115]) (fun g=>[(10,(vi g))]) (fun g=>[an]++A) (fun g R=>p=g∧True) ?_ ?_;refine qj (jf (γ:=Nat×Int) (rs [10,11,99,115]) (fun g=>[(10,(vi g.2))]) (fun g=>[an]++A) (fun g R=>gp N a S o g.1 g.2=some p∧True) (fun g=>g.1) (N,bx) prm ⟨H,trivial⟩ ?_)
 clear H;rintro⟨aR,C⟩ eO eP aj ⟨H,_⟩;rcases aR with _|aR;exact j5 H;replace H:gp N a S o (aR+1) C=some p:=H;rw [gp] at H;refine qc (qc ?_);obtain⟨a8,a9,H⟩:=q1v H;obtain⟨ba,cr,H⟩:=zu H
 let G2:=(true&&((decide (C≤S))==true))
 refine xq 14 [] [phX (vi C),phX (vi S),phX (.bool (decide (C≤S))),phX (.bool (decide (C≤S))),phG G2 (phX d),phG G2 (phX (vi C)),phG G2 ((fun u _=>gy (zz .u16) d o u C.toNat)),phG G2 (phX (.int .u16 (ix o C))),phG G2 (phX d),phG G2 (phX (vi a)),phG G2 ((fun u _=>gy (zz .u16) d o u a.toNat)),phG G2 (phX (.int .u16 (ix o a))),phG G2 (phX (.bool (ba.getD default))),phX (.bool ((decide (C≤S))&&(ba.getD default)))] mixed (by kernel_rfl) (wz ⟨zi,zi,zi,zi,(qy zi),(qy zi),(qy (fun _ _ _ _ h=>h)),(qy zi),(qy zi),(qy zi),(qy (fun _ _ _ _ h=>h)),(qy zi),(qy zi),zi,trivial⟩) ⟨?_,?_,?_,?_,?_,?_,?_,?_,?_,?_,?_,?_,?_,?_,trivial⟩ fun eQ bc=>?_
 intro l az k m hd;exact zf rfl rfl rfl (zo (z8 (m 10 rfl)));intro l aA k m hd;exact zf rfl rfl rfl (zo (z8 (m 11 rfl)));rintro l aB k m ⟨n,t,_⟩;exact zf rfl rfl rfl (zo (z5q (n rfl) (t rfl)));rintro l aC k m ⟨n,_⟩;exact zf rfl rfl rfl (zo (z8 (n rfl)));rintro l aD k m ⟨n,_⟩
 exact zw (Gj:=true) (Bj:=decide (C≤S)) rfl rfl rfl (jr (n rfl)) rfl (fun I z=>zo (z8 (m 0 rfl)));rintro l aE k m ⟨n,_⟩;exact zw (Gj:=true) (Bj:=decide (C≤S)) rfl rfl rfl (jr (n rfl)) rfl (fun I z=>zo (z8 (m 10 rfl)));rintro l aF k m ⟨n,t,X,_⟩
 exact zw (Gj:=true) (Bj:=decide (C≤S)) rfl rfl rfl (jr (X rfl)) rfl (fun I z=>je (i:=C.toNat) o7 (show l 103=d from(n rfl).1 (zl rfl z)) ((V.mono aj).mono k) (zt (show l 104=(vi C) from(t rfl).1 (zl rfl z)) (a8 (zl I z)).1) (qd (a8 (zl I z))));rintro l aG k m ⟨n,t,_⟩
 exact zw (Gj:=true) (Bj:=decide (C≤S)) rfl rfl rfl (jr (t rfl)) rfl (fun I z=>jm (uj (i:=C.toNat) (j:=0) og ((V.mono aj).mono k) rfl rfl ((n rfl).1 (zl rfl z)) (qd (a8 (zl I z)))) (fun _ _ h=>ql.1 h));rintro l aH k m ⟨n,_⟩
 exact zw (Gj:=true) (Bj:=decide (C≤S)) rfl rfl rfl (jr (n rfl)) rfl (fun I z=>zo (z8 (m 0 rfl)));rintro l aI k m ⟨n,_⟩;exact zw (Gj:=true) (Bj:=decide (C≤S)) rfl rfl rfl (jr (n rfl)) rfl (fun I z=>zo (z8 (m 1 rfl)));rintro l ae k m ⟨n,t,X,_⟩
 exact zw (Gj:=true) (Bj:=decide (C≤S)) rfl rfl rfl (jr (X rfl)) rfl (fun I z=>je (i:=a.toNat) o7 (show l 107=d from(n rfl).1 (zl rfl z)) ((V.mono aj).mono k) (zt (show l 108=(vi a) from(t rfl).1 (zl rfl z)) (a9 (zl I z)).1) (qd (a9 (zl I z))));rintro l af k m ⟨n,t,_⟩
 exact zw (Gj:=true) (Bj:=decide (C≤S)) rfl rfl rfl (jr (t rfl)) rfl (fun I z=>jm (uj (i:=a.toNat) (j:=0) og ((V.mono aj).mono k) rfl rfl ((n rfl).1 (zl rfl z)) (qd (a9 (zl I z)))) (fun _ _ h=>ql.1 h));rintro l T k m ⟨n,t,X,d3,_⟩;have bK:phG G2 (phX (.int .u16 (ix o C))) (l 106) T:=n rfl
 have bL:phG G2 (phX (.int .u16 (ix o a))) (l 110) T:=t rfl
 exact zw (Gj:=true) (Bj:=decide (C≤S)) rfl rfl rfl (jr (X rfl)) rfl (fun I z=>kz (vs:=[(.int .u16 (ix o C)),(.int .u16 (ix o a))]) zcc (by simp only [List.map,ev,(show l 106=(.int .u16 (ix o C)) from bK.1 (zl rfl z)),(show l 110=(.int .u16 (ix o a)) from bL.1 (zl rfl z))]<;>rfl) ((by have aN:=(sj cr (zl I z));exact df  aN)) (fun _ _ h=>h))
 rintro l ag k m ⟨n,t,_⟩;exact zf rfl rfl rfl (zo (uw (n rfl) (fun hb=>(show l 111=(.bool (ba.getD default)) from(t rfl).1 (zl rfl hb))) rfl));intro eR cs eS ct eT cu eU cv eV eW eX eY eZ e0 e1 e2 e3 e4 e5 e6 e7 e8 e9 fa fb fc fd cw;obtain rfl:=Eq.symm cs;obtain rfl:=Eq.symm ct
 obtain rfl:=Eq.symm cu;obtain rfl:=Eq.symm cv;obtain rfl:=Eq.symm cw;refine ze (zy rfl H (fun H=>?_) (fun H=>?_));refine qi (qj (q8 (zh (vi C) ?_)));obtain⟨cx,H⟩:=zg H;refine zx (ja rfl rfl cx) (zk (vi (C+1)) (ze ?_))
 exact⟨dkt,bc,ji,(aR,C+1),Nat.lt_succ_self _,⟨rfl,trivial⟩,prm,H,trivial⟩;refine jk ?_;exact⟨dkt,(aj.trans bc),ji,C,⟨rfl,trivial⟩,prm,(Option.some.inj H).symm,trivial⟩;rintro p fe ff M ⟨rfl,_⟩;obtain⟨G,H,q⟩:=zu q
 refine qz (γ:=Int) (rs [11,12,115,132]) (fun g=>[(11,(vi g))]) (fun g=>[an]++A) (fun g R=>G=g∧True) ?_ ?_
 refine qj (jf (γ:=Nat×Int) (rs [11,12,115,132]) (fun g=>[(11,(vi g.2))]) (fun g=>[an]++A) (fun g R=>xz N a o p g.1 g.2=some G∧True) (fun g=>g.1) (N,S) prm ⟨H,trivial⟩ ?_);clear H;rintro⟨aS,B⟩ fg fh ak ⟨H,_⟩;rcases aS with _|aS;exact j5 H
 replace H:xz N a o p (aS+1) B=some G:=H;rw [xz] at H;refine qc (qc ?_);obtain⟨be,bf,H⟩:=q1v H;obtain⟨aL,cy,H⟩:=zu H;let G3:=(true&&((decide (p≤B))==true))
 refine xq 15 [] [phX (vi p),phX (vi B),phX (.bool (decide (p≤B))),phX (.bool (decide (p≤B))),phG G3 (phX d),phG G3 (phX (vi B)),phG G3 ((fun u _=>gy (zz .u16) d o u B.toNat)),phG G3 (phX (.int .u16 (ix o B))),phG G3 (phX d),phG G3 (phX (vi a)),phG G3 ((fun u _=>gy (zz .u16) d o u a.toNat)),phG G3 (phX (.int .u16 (ix o a))),phG G3 (phX (.bool (aL.getD default))),phG G3 (phX (.bool (!(aL.getD default)))),phX (.bool ((decide (p≤B))&&(!(aL.getD default))))] mixed (by kernel_rfl) (wz ⟨zi,zi,zi,zi,(qy zi),(qy zi),(qy (fun _ _ _ _ h=>h)),(qy zi),(qy zi),(qy zi),(qy (fun _ _ _ _ h=>h)),(qy zi),(qy zi),(qy zi),zi,trivial⟩) ⟨?_,?_,?_,?_,?_,?_,?_,?_,?_,?_,?_,?_,?_,?_,?_,trivial⟩ fun fi bg=>?_
 intro l az k m hd;exact zf rfl rfl rfl (zo (z8 (m 10 rfl)));intro l aA k m hd;exact zf rfl rfl rfl (zo (z8 (m 11 rfl)));rintro l aB k m ⟨n,t,_⟩;exact zf rfl rfl rfl (zo (z5q (n rfl) (t rfl)));rintro l aC k m ⟨n,_⟩;exact zf rfl rfl rfl (zo (z8 (n rfl)));rintro l aD k m ⟨n,_⟩
 exact zw (Gj:=true) (Bj:=decide (p≤B)) rfl rfl rfl (jr (n rfl)) rfl (fun I z=>zo (z8 (m 0 rfl)));rintro l aE k m ⟨n,_⟩;exact zw (Gj:=true) (Bj:=decide (p≤B)) rfl rfl rfl (jr (n rfl)) rfl (fun I z=>zo (z8 (m 11 rfl)));rintro l aF k m ⟨n,t,X,_⟩
 exact zw (Gj:=true) (Bj:=decide (p≤B)) rfl rfl rfl (jr (X rfl)) rfl (fun I z=>je (i:=B.toNat) o7 (show l 119=d from(n rfl).1 (zl rfl z)) ((V.mono (M.trans ak)).mono k) (zt (show l 120=(vi B) from(t rfl).1 (zl rfl z)) (be (zl I z)).1) (qd (be (zl I z))));rintro l aG k m ⟨n,t,_⟩
 exact zw (Gj:=true) (Bj:=decide (p≤B)) rfl rfl rfl (jr (t rfl)) rfl (fun I z=>jm (uj (i:=B.toNat) (j:=0) og ((V.mono (M.trans ak)).mono k) rfl rfl ((n rfl).1 (zl rfl z)) (qd (be (zl I z)))) (fun _ _ h=>ql.1 h));rintro l aH k m ⟨n,_⟩
 exact zw (Gj:=true) (Bj:=decide (p≤B)) rfl rfl rfl (jr (n rfl)) rfl (fun I z=>zo (z8 (m 0 rfl)));rintro l aI k m ⟨n,_⟩;exact zw (Gj:=true) (Bj:=decide (p≤B)) rfl rfl rfl (jr (n rfl)) rfl (fun I z=>zo (z8 (m 1 rfl)));rintro l ae k m ⟨n,t,X,_⟩
 exact zw (Gj:=true) (Bj:=decide (p≤B)) rfl rfl rfl (jr (X rfl)) rfl (fun I z=>je (i:=a.toNat) o7 (show l 123=d from(n rfl).1 (zl rfl z)) ((V.mono (M.trans ak)).mono k) (zt (show l 124=(vi a) from(t rfl).1 (zl rfl z)) (bf (zl I z)).1) (qd (bf (zl I z))));rintro l af k m ⟨n,t,_⟩
 exact zw (Gj:=true) (Bj:=decide (p≤B)) rfl rfl rfl (jr (t rfl)) rfl (fun I z=>jm (uj (i:=a.toNat) (j:=0) og ((V.mono (M.trans ak)).mono k) rfl rfl ((n rfl).1 (zl rfl z)) (qd (bf (zl I z)))) (fun _ _ h=>ql.1 h));rintro l T k m ⟨n,t,X,d3,_⟩
 have bM:phG G3 (phX (.int .u16 (ix o B))) (l 122) T:=n rfl;have bN:phG G3 (phX (.int .u16 (ix o a))) (l 126) T:=t rfl
 exact zw (Gj:=true) (Bj:=decide (p≤B)) rfl rfl rfl (jr (X rfl)) rfl (fun I z=>kz (vs:=[(.int .u16 (ix o B)),(.int .u16 (ix o a))]) zcc (by simp only [List.map,ev,(show l 122=(.int .u16 (ix o B)) from bM.1 (zl rfl z)),(show l 126=(.int .u16 (ix o a)) from bN.1 (zl rfl z))]<;>rfl) ((by have aN:=(sj cy (zl I z));exact df  aN)) (fun _ _ h=>h))
 rintro l ag k m ⟨n,t,_⟩;exact zw (Gj:=true) (Bj:=decide (p≤B)) rfl rfl rfl (jr (t rfl)) rfl (fun I z=>zo (fo (show l 127=(.bool (aL.getD default)) from(n rfl).1 (zl rfl z))));rintro l am k m ⟨n,t,_⟩
 exact zf rfl rfl rfl (zo (uw (n rfl) (fun hb=>(show l 128=(.bool (!(aL.getD default))) from(t rfl).1 (zl rfl hb))) rfl));intro fj cz fk cA fm cB fn cC fp fq fr fs ft fu fv fw fx fy fz fB fC fD fE fG fH fI fJ fK fL cD;obtain rfl:=Eq.symm cz;obtain rfl:=Eq.symm cA;obtain rfl:=Eq.symm cB
 obtain rfl:=Eq.symm cC;obtain rfl:=Eq.symm cD;refine ze (zy rfl H (fun H=>?_) (fun H=>?_));refine qi (qj (q8 (zh (vi B) ?_)));obtain⟨cE,H⟩:=zg H;refine zx (ww rfl rfl cE) (zk (vi (B-1)) (ze ?_));exact⟨dkt,bg,ji,(aS,B-1),Nat.lt_succ_self _,⟨rfl,trivial⟩,prm,H,trivial⟩
 refine jk ?_;exact⟨dkt,(ak.trans bg),ji,B,⟨rfl,trivial⟩,prm,(Option.some.inj H).symm,trivial⟩;rintro G fM fN Y ⟨rfl,_⟩;refine qc (zq (zh (vi p) (zh (vi G) (zx (l5 rfl rfl) (ze (zy rfl q (fun q=>?_) (fun q=>?_)))))));refine jk ?_
 exact⟨dkt,((bJ.trans M).trans Y),ji,((G,o),an),⟨rfl,trivial⟩,prm,(Option.some.inj q).symm,(V.mono (M.trans Y)),trivial⟩;refine qi (qc ?_);obtain⟨bh,bi,bj,bk,q⟩:=q1c q
 refine z5y [13,15] [(fun es=>phX d),(fun es=>phX (vi p)),(fun es=>phX d),(fun es=>phX (vi G)),(fun es=>phX d),(fun es=>phX (vi G)),(fun es=>(fun u _=>gy (zz .u16) d o u G.toNat)),(fun es=>phX (.int .u16 (ix o G))),(fun es=>phX d),(fun es=>phX (vi p)),(fun es=>(fun u _=>gy (zz .u16) d o u p.toNat)),(fun es=>phX (.int .u16 (ix o p))),(fun es=>(fun u _=>gy (zz .u16) d o u p.toNat)),(fun es=>(fun _ _=>True)),(fun es=>(fun u _=>gy (zz .u16) d o u G.toNat)),(fun es=>(fun _ _=>True))] (fun fl es R O=>(fl=[false,false]∧O.Perm ([an]++A)∧True)∨(fl=[true,false]∧ ∃ (fA:Frag),O.Perm ([fA]++A)∧ORep (zz .u16) R fA d (up o p (ix o G))∧True)∨(fl=[true,true]∧ ∃ (fA:Frag),O.Perm ([fA]++A)∧ORep (zz .u16) R fA d (up (up o p (ix o G)) G (ix o p))∧True)) mixed (by kernel_rfl) ⟨(q9 zi),(q9 zi),(q9 zi),(q9 zi),(q9 zi),(q9 zi),(q9 (fun _ _ _ _ h=>h)),(q9 zi),(q9 zi),(q9 zi),(q9 (fun _ _ _ _ h=>h)),(q9 zi),(q9 (fun _ _ _ _ h=>h)),(fun _ _ _ _ _ h=>h),(q9 (fun _ _ _ _ h=>h)),(fun _ _ _ _ _ h=>h),trivial⟩ (by rintro fl es R R' O k (⟨rfl,s,_⟩|⟨rfl,fA,s,c,_⟩|⟨rfl,fA,s,c,_⟩);exact(.inl ⟨rfl,s,trivial⟩);exact(.inr (.inl ⟨rfl,fA,s,(c.mono k),trivial⟩));exact(.inr (.inr ⟨rfl,fA,s,(c.mono k),trivial⟩))) ⟨(fun _ _ _ _ _ h=>h),(fun _ _ _ _ _ h=>h),(fun _ _ _ _ _ h=>h),(fun _ _ _ _ _ h=>h),(fun _ _ _ _ _ h=>h),(fun _ _ _ _ _ h=>h),(fun _ _ _ _ _ h=>h),(fun _ _ _ _ _ h=>h),(fun _ _ _ _ _ h=>h),(fun _ _ _ _ _ h=>h),(fun _ _ _ _ _ h=>h),(fun _ _ _ _ _ h=>h),(fun _ _ _ _ _ h=>h),(fun _ _ _ _ _ h=>h),(fun _ _ _ _ _ h=>h),(fun _ _ _ _ _ h=>h),trivial⟩ (fun es=> .inl ⟨rfl,(List.Perm.refl _),trivial⟩) ⟨?_,?_,?_,?_,?_,?_,?_,?_,?_,?_,?_,?_,?_,?_,?_,?_,trivial⟩ fun cF bO=>?_
 intro l az fl O k m hd x y;exact zo (z8 (m 0 rfl));intro l aA fl O k m hd x y;exact zo (z8 (m 10 rfl));intro l aB fl O k m hd x y;obtain⟨n,_⟩:=hd;exact zo (z8 (m 0 rfl));intro l aC fl O k m hd x y;obtain⟨n,_⟩:=hd;exact zo (z8 (m 11 rfl));intro l aD fl O k m hd x y;exact zo (z8 (m 0 rfl))
 intro l aE fl O k m hd x y;exact zo (z8 (m 11 rfl));intro l aF fl O k m hd x y;obtain⟨n,t,_⟩:=hd;exact je (i:=G.toNat) o7 (n rfl) ((V.mono (M.trans Y)).mono k) (zt (t rfl) bh.1) (qd bh);intro l aG fl O k m hd x y;obtain⟨n,_⟩:=hd
 rcases y with⟨rfl,s,_⟩|⟨rfl,fA,s,c,_⟩|⟨rfl,fA,s,c,_⟩;exact xn s (jm (uj (i:=G.toNat) (j:=0) og ((V.mono (M.trans Y)).mono k) rfl rfl (n rfl) (qd bh)) (fun _ _ h=>ql.1 h));exact gq x (by kernel_rfl);exact gq x (by kernel_rfl);intro l aH fl O k m hd x y
 exact zo (z8 (m 0 rfl));intro l aI fl O k m hd x y;exact zo (z8 (m 10 rfl));intro l ae fl O k m hd x y;obtain⟨n,t,_⟩:=hd;exact je (i:=p.toNat) o7 (n rfl) ((V.mono (M.trans Y)).mono k) (zt (t rfl) bi.1) (qd bi);intro l af fl O k m hd x y;obtain⟨n,_⟩:=hd
 rcases y with⟨rfl,s,_⟩|⟨rfl,fA,s,c,_⟩|⟨rfl,fA,s,c,_⟩;exact xn s (jm (uj (i:=p.toNat) (j:=0) og ((V.mono (M.trans Y)).mono k) rfl rfl (n rfl) (qd bi)) (fun _ _ h=>ql.1 h));exact gq x (by kernel_rfl);exact gq x (by kernel_rfl);intro l T fl O k m hd x y
 obtain⟨n,t,X,d3,d4,d5,d6,d7,d8,d9,aa,ab,ac,ad,_⟩:=hd;exact je (i:=p.toNat) o7 (n rfl) ((V.mono (M.trans Y)).mono k) (zt (t rfl) bj.1) (qd bj);intro l ag fl O k m hd x hf y;obtain⟨n,t,X,d3,d4,d5,d6,d7,d8,d9,aa,ab,ac,ad,_⟩:=hd
 rcases y with⟨rfl,s,_⟩|⟨rfl,fA,s,c,_⟩|⟨rfl,fA,s,c,_⟩;refine ny s ?_;refine Eff.mono (wu (i:=p.toNat) (j:=0) og ((V.mono (M.trans Y)).mono k) rfl rfl (n rfl) (qd bj) (t rfl) (ql.2 rfl)) ?_;rintro v R' O' hle' ⟨rfl,f,rfl,ho⟩;exact⟨trivial,.inr (.inl ⟨rfl,f,(List.Perm.refl _),ho,trivial⟩)⟩
 cases hf;cases hf;intro l am fl O k m hd x y;obtain⟨n,t,X,d3,d4,d5,d6,d7,d8,d9,aa,ab,ac,ad,ax,ay,_⟩:=hd;exact je (i:=G.toNat) o7 (n rfl) ((V.mono (M.trans Y)).mono k) (zt (t rfl) bk.1) (qd bk);intro l aP fl O k m hd x hf y;obtain⟨n,t,X,d3,d4,d5,d6,d7,d8,d9,aa,ab,ac,ad,ax,ay,bs,_⟩:=hd
 rcases y with⟨rfl,s,_⟩|⟨rfl,fA,s,c,_⟩|⟨rfl,fA,s,c,_⟩;exact gq x (by kernel_rfl);refine ny s ?_;refine Eff.mono (wu (i:=G.toNat) (j:=0) og c rfl rfl (z5f (n rfl)) (by rw [up,List.length_set];exact qd bk) (t rfl) (ql.2 rfl)) ?_;rintro v R' O' hle' ⟨rfl,f,rfl,ho⟩
 exact⟨trivial,.inr (.inr ⟨rfl,f,(List.Perm.refl _),ho,trivial⟩)⟩;cases hf;intro fO fP fQ fR fS fT fU fV fW fX fY fZ f0 f1 cG cH cI cJ cK cL f2 cM cN cO f3 cP f4 f5;rintro dv (⟨e,_⟩|⟨e,_⟩|⟨_,bA,s,bl,_⟩);cases e;cases e;refine⟨[],_,s,?_⟩
 replace bl:ORep (zz .u16) cF bA d (up (up o p (ix o G)) G (ix o p)):=bl;obtain rfl:=Eq.symm cG;obtain rfl:=Eq.symm cH;obtain rfl:=Eq.symm cI;obtain rfl:=Eq.symm cJ;obtain rfl:=Eq.symm cK;obtain rfl:=Eq.symm cL;obtain rfl:=Eq.symm cM;obtain rfl:=Eq.symm cN;obtain rfl:=Eq.symm cO;obtain rfl:=Eq.symm cP
 refine jb (zh (vi p) ?_);obtain⟨cQ,q⟩:=zg q;refine zx (ja rfl rfl cQ) (zk (vi (p+1)) (ze (q8 (zh (vi G) ?_))));obtain⟨cR,q⟩:=zg q;refine zx (ww rfl rfl cR) (zk (vi (G-1)) (ze ?_))
 exact⟨dkt,((M.trans Y).trans bO),ji,(aQ,p+1,G-1,(up (up o p (ix o G)) G (ix o p)),bA),Nat.lt_succ_self _,⟨rfl,rfl,trivial⟩,prm,q,bl,trivial⟩;rintro⟨w,cS⟩ f6 f7 bP ⟨rfl,al,_⟩;refine qc ?_;obtain⟨bm,bn,bo,bp,P⟩:=q1c P
 refine z5y [13,15] [(fun es=>phX d),(fun es=>phX (vi w.1)),(fun es=>phX d),(fun es=>phX (vi a)),(fun es=>phX d),(fun es=>phX (vi a)),(fun es=>(fun u _=>gy (zz .u16) d w.2 u a.toNat)),(fun es=>phX (.int .u16 (ix w.2 a))),(fun es=>phX d),(fun es=>phX (vi w.1)),(fun es=>(fun u _=>gy (zz .u16) d w.2 u w.1.toNat)),(fun es=>phX (.int .u16 (ix w.2 w.1))),(fun es=>(fun u _=>gy (zz .u16) d w.2 u w.1.toNat)),(fun es=>(fun _ _=>True)),(fun es=>(fun u _=>gy (zz .u16) d w.2 u a.toNat)),(fun es=>(fun _ _=>True))] (fun fl es R O=>(fl=[false,false]∧O.Perm ([cS]++A)∧True)∨(fl=[true,false]∧ ∃ (fA:Frag),O.Perm ([fA]++A)∧ORep (zz .u16) R fA d (up w.2 w.1 (ix w.2 a))∧True)∨(fl=[true,true]∧ ∃ (fA:Frag),O.Perm ([fA]++A)∧ORep (zz .u16) R fA d (up (up w.2 w.1 (ix w.2 a)) a (ix w.2 w.1))∧True)) mixed (by kernel_rfl) ⟨(q9 zi),(q9 zi),(q9 zi),(q9 zi),(q9 zi),(q9 zi),(q9 (fun _ _ _ _ h=>h)),(q9 zi),(q9 zi),(q9 zi),(q9 (fun _ _ _ _ h=>h)),(q9 zi),(q9 (fun _ _ _ _ h=>h)),(fun _ _ _ _ _ h=>h),(q9 (fun _ _ _ _ h=>h)),(fun _ _ _ _ _ h=>h),trivial⟩ (by rintro fl es R R' O k (⟨rfl,s,_⟩|⟨rfl,fA,s,c,_⟩|⟨rfl,fA,s,c,_⟩);exact(.inl ⟨rfl,s,trivial⟩);exact(.inr (.inl ⟨rfl,fA,s,(c.mono k),trivial⟩));exact(.inr (.inr ⟨rfl,fA,s,(c.mono k),trivial⟩))) ⟨(fun _ _ _ _ _ h=>h),(fun _ _ _ _ _ h=>h),(fun _ _ _ _ _ h=>h),(fun _ _ _ _ _ h=>h),(fun _ _ _ _ _ h=>h),(fun _ _ _ _ _ h=>h),(fun _ _ _ _ _ h=>h),(fun _ _ _ _ _ h=>h),(fun _ _ _ _ _ h=>h),(fun _ _ _ _ _ h=>h),(fun _ _ _ _ _ h=>h),(fun _ _ _ _ _ h=>h),(fun _ _ _ _ _ h=>h),(fun _ _ _ _ _ h=>h),(fun _ _ _ _ _ h=>h),(fun _ _ _ _ _ h=>h),trivial⟩ (fun es=> .inl ⟨rfl,(List.Perm.refl _),trivial⟩) ⟨?_,?_,?_,?_,?_,?_,?_,?_,?_,?_,?_,?_,?_,?_,?_,?_,trivial⟩ fun cT bQ=>?_
 intro l az fl O k m hd x y;exact zo (z8 (m 0 rfl));intro l aA fl O k m hd x y;exact zo (z8 (m 11 rfl));intro l aB fl O k m hd x y;obtain⟨n,_⟩:=hd;exact zo (z8 (m 0 rfl));intro l aC fl O k m hd x y;obtain⟨n,_⟩:=hd;exact zo (z8 (m 1 rfl));intro l aD fl O k m hd x y;exact zo (z8 (m 0 rfl))
 intro l aE fl O k m hd x y;exact zo (z8 (m 1 rfl));intro l aF fl O k m hd x y;obtain⟨n,t,_⟩:=hd;exact je (i:=a.toNat) o7 (n rfl) (al.mono k) (zt (t rfl) bm.1) (qd bm);intro l aG fl O k m hd x y;obtain⟨n,_⟩:=hd;rcases y with⟨rfl,s,_⟩|⟨rfl,fA,s,c,_⟩|⟨rfl,fA,s,c,_⟩
 exact xn s (jm (uj (i:=a.toNat) (j:=0) og (al.mono k) rfl rfl (n rfl) (qd bm)) (fun _ _ h=>ql.1 h));exact gq x (by kernel_rfl);exact gq x (by kernel_rfl);intro l aH fl O k m hd x y;exact zo (z8 (m 0 rfl));intro l aI fl O k m hd x y;exact zo (z8 (m 11 rfl));intro l ae fl O k m hd x y
 obtain⟨n,t,_⟩:=hd;exact je (i:=w.1.toNat) o7 (n rfl) (al.mono k) (zt (t rfl) bn.1) (qd bn);intro l af fl O k m hd x y;obtain⟨n,_⟩:=hd;rcases y with⟨rfl,s,_⟩|⟨rfl,fA,s,c,_⟩|⟨rfl,fA,s,c,_⟩
 exact xn s (jm (uj (i:=w.1.toNat) (j:=0) og (al.mono k) rfl rfl (n rfl) (qd bn)) (fun _ _ h=>ql.1 h));exact gq x (by kernel_rfl);exact gq x (by kernel_rfl);intro l T fl O k m hd x y;obtain⟨n,t,X,d3,d4,d5,d6,d7,d8,d9,aa,ab,ac,ad,_⟩:=hd
 exact je (i:=w.1.toNat) o7 (n rfl) (al.mono k) (zt (t rfl) bo.1) (qd bo);intro l ag fl O k m hd x hf y;obtain⟨n,t,X,d3,d4,d5,d6,d7,d8,d9,aa,ab,ac,ad,_⟩:=hd;rcases y with⟨rfl,s,_⟩|⟨rfl,fA,s,c,_⟩|⟨rfl,fA,s,c,_⟩;refine ny s ?_
 refine Eff.mono (wu (i:=w.1.toNat) (j:=0) og (al.mono k) rfl rfl (n rfl) (qd bo) (t rfl) (ql.2 rfl)) ?_;rintro v R' O' hle' ⟨rfl,f,rfl,ho⟩;exact⟨trivial,.inr (.inl ⟨rfl,f,(List.Perm.refl _),ho,trivial⟩)⟩;cases hf;cases hf;intro l am fl O k m hd x y;obtain⟨n,t,X,d3,d4,d5,d6,d7,d8,d9,aa,ab,ac,ad,ax,ay,_⟩:=hd
 exact je (i:=a.toNat) o7 (n rfl) (al.mono k) (zt (t rfl) bp.1) (qd bp);intro l aP fl O k m hd x hf y;obtain⟨n,t,X,d3,d4,d5,d6,d7,d8,d9,aa,ab,ac,ad,ax,ay,bs,_⟩:=hd;rcases y with⟨rfl,s,_⟩|⟨rfl,fA,s,c,_⟩|⟨rfl,fA,s,c,_⟩;exact gq x (by kernel_rfl);refine ny s ?_
 refine Eff.mono (wu (i:=a.toNat) (j:=0) og c rfl rfl (z5f (n rfl)) (by rw [up,List.length_set];exact qd bp) (t rfl) (ql.2 rfl)) ?_;rintro v R' O' hle' ⟨rfl,f,rfl,ho⟩;exact⟨trivial,.inr (.inr ⟨rfl,f,(List.Perm.refl _),ho,trivial⟩)⟩;cases hf
 intro f8 f9 ga gb gc ge gf gg gh gi gj gk gl gn cU cV cW cX cY cZ go c0 c1 c2 gr c3 gs gt;rintro dw (⟨e,_⟩|⟨e,_⟩|⟨_,bq,s,br,_⟩);cases e;cases e;refine⟨[],_,s,?_⟩;replace br:ORep (zz .u16) cT bq d (up (up w.2 w.1 (ix w.2 a)) a (ix w.2 w.1)):=br;obtain rfl:=Eq.symm cU
 obtain rfl:=Eq.symm cV;obtain rfl:=Eq.symm cW;obtain rfl:=Eq.symm cX;obtain rfl:=Eq.symm cY;obtain rfl:=Eq.symm cZ;obtain rfl:=Eq.symm c0;obtain rfl:=Eq.symm c1;obtain rfl:=Eq.symm c2;obtain rfl:=Eq.symm c3;refine jb (zh (vi w.1) (zk (vi w.1) (zk (.bool false) (ze (qp ?_)))));obtain rfl:=Option.some.inj P
 refine bz (D:=[]) (J:=[]) (O':=[bq]) (rs:=[.tmp 8,.tmp 9]) (vs:=[(vi w.1),(.bool false)]) (((((bR.trans K).trans U).trans bI).trans bP).trans bQ) ((pk 0 rfl (List.Perm.refl _))) rfl ⟨rfl,rfl,trivial⟩ ?_;exact⟨bq,rfl,rfl,br⟩
theorem q89:Enters prog 117:=enters_of func117 rfl (by kernel_rfl)
theorem q5u:Enters prog 89:=enters_of func89 rfl (by kernel_rfl)
theorem z8w{N:Nat}(F:Nat): ∀ {R:RH} {data:List Int} {c:Value} {fF:Frag} (G:ORep (zz .u16) R fF c data) {a:Int} {b:Int} {limit:Int} {r:List Int} (d:yh N F data a b limit=some r),CallG prog 89 #[c,(vi a),(vi b),(vi limit)] R [fF] (fun v R' O'=> ∃ H,v= .tuple #[]∧O'=[H]∧ORep (zz .u16) R' H c r):=by
  induction F with
  |zero=>intros;rename_i d;exact j5 d
  |succ F ih=>
    intro R data c fF G a b limit r d
    refine l9 (args:=[c,(vi a),(vi b),(vi limit)]) func89 rfl rfl fun A=>?_
    rw [yh] at d
    refine qc ?_
    refine q8 ?_
    refine zk (.bool true) ?_
    refine ze ?_
    refine qc ?_
    refine q8 ?_
    refine zk (.bool true) ?_
    refine ze ?_
    refine qj ?_
    refine jf (γ:=Nat×Int×Int×Int×Bool×Bool×(List Int)×Frag) (rs [1,4,8,134]) (fun g=>[(1,(vi g.2.1)),(2,(vi g.2.2.1)),(3,(vi g.2.2.2.1)),(8,(.bool g.2.2.2.2.1)),(9,(.bool g.2.2.2.2.2.1))]) (fun g=>[g.2.2.2.2.2.2.2]++A) (fun g R=>vg N (yh N F) g.1 g.2.1 g.2.2.1 g.2.2.2.1 g.2.2.2.2.1 g.2.2.2.2.2.1 g.2.2.2.2.2.2.1=some r∧ORep (zz .u16) R g.2.2.2.2.2.2.2 c g.2.2.2.2.2.2.1∧True) (fun g=>g.1) (N,a,b,limit,true,true,data,fF) prm ⟨d,G,trivial⟩ ?_
    clear d
    rintro⟨F1,f,m,x4,x5,x6,x7,U⟩ bY R8 aa ⟨d,V,_⟩
    rcases F1 with _|F1
    · exact j5 d
    replace d:vg N (yh N F) (F1+1) f m x4 x5 x6 x7=some r:=d;rw [vg] at d
    refine qj ?_
    refine qc ?_
    refine q8 ?_
    refine zh (vi m) ?_
    refine zh (vi f) ?_
    obtain⟨bh,d⟩:=zg d
    refine zx (ww rfl rfl bh) ?_
    refine zk (vi (m-f)) ?_
    refine ze ?_
    refine qc ?_
    refine qc ?_
    refine q8 ?_
    refine zh (vi (m-f)) ?_
    refine zx (z5q rfl rfl) ?_
    refine ze ?_
    refine zy rfl d (fun d=>?_) (fun d=>?_)
    · refine qc ?_
      refine q8 ?_
      refine zh c ?_
      refine zh (vi f) ?_
      refine zh (vi m) ?_
      obtain⟨cK,bi,d⟩:=zu d
      refine z0j (Oc:=[U]) (Or:=[]++A) (cs:=[]) (vs:=[c,(vi f),(vi m)]) rfl q9r rfl rfl ((pk 0 rfl (List.Perm.refl _))) (z8h V bi) fun cL cM bZ ai bj=>?_
      obtain⟨aj,rfl,rfl,bk⟩:=bj
      refine ze ?_
      refine qp ?_
      obtain rfl:=Option.some.inj d
      refine bz (D:=[]) (J:=[]) (O':=[aj]) (rs:=[]) (vs:=[]) (aa.trans ai) ((pk 0 rfl (List.Perm.refl _))) rfl trivial ?_
      exact⟨aj,rfl,rfl,bk⟩
    · refine qi ?_
      refine qc ?_
      refine qc ?_
      refine q8 ?_
      refine zh (vi x4) ?_
      refine zx (xk rfl rfl) ?_
      refine ze ?_
      refine zy rfl d (fun d=>?_) (fun d=>?_)
      · refine qc ?_
        refine q8 ?_
        refine zh c ?_
        refine zh (vi f) ?_
        refine zh (vi m) ?_
        obtain⟨cN,bl,d⟩:=zu d
        refine z0j (Oc:=[U]) (Or:=[]++A) (cs:=[]) (vs:=[c,(vi f),(vi m)]) rfl q9g rfl rfl ((pk 0 rfl (List.Perm.refl _))) (z9q V bl) fun cO cP b0 ak bm=>?_
        obtain⟨al,rfl,rfl,bn⟩:=bm
        refine ze ?_
        refine qp ?_
        obtain rfl:=Option.some.inj d
        refine bz (D:=[]) (J:=[]) (O':=[al]) (rs:=[]) (vs:=[]) (aa.trans ak) ((pk 0 rfl (List.Perm.refl _))) rfl trivial ?_
        exact⟨al,rfl,rfl,bn⟩
      · refine qi ?_
        obtain⟨t,k,d⟩:=zu d
        refine qz (γ:=(Int×List Int)×Frag) (rs [3,4,34,42]) (fun g=>[(3,(vi g.1.1))]) (fun g=>[g.2]++A) (fun g R=>t=g.1∧ORep (zz .u16) R g.2 c g.1.2∧True) ?_ ?_
        · refine qc ?_
          refine q8 ?_
          refine zh (.bool x5) ?_
          refine zx (fo rfl) ?_
          refine ze ?_
          refine zy rfl k (fun k=>?_) (fun k=>?_)
          · refine qc ?_
            refine q8 ?_
            refine zh c ?_
            refine zh (vi f) ?_
            refine zh (vi m) ?_
            obtain⟨bo,bp,k⟩:=zu k
            refine z0j (Oc:=[U]) (Or:=[]++A) (cs:=[]) (vs:=[c,(vi f),(vi m)]) rfl q7f rfl rfl ((pk 0 rfl (List.Perm.refl _))) (z8i V bp) fun cQ cR b1 am bq=>?_
            obtain⟨br,rfl,rfl,bs⟩:=bq
            refine ze ?_
            refine q8 ?_
            refine zh (vi x4) ?_
            obtain⟨bt,k⟩:=zg k
            refine zx (ww rfl rfl bt) ?_
            refine zk (vi (x4-1)) ?_
            refine ze ?_
            exact⟨dkt,am,ji,((x4-1,bo),br),⟨rfl,trivial⟩,prm,(Option.some.inj k).symm,bs,trivial⟩
          · refine qi ?_
            exact⟨dkt,(RH.le.refl _),ji,((x4,x7),U),⟨rfl,trivial⟩,prm,(Option.some.inj k).symm,V,trivial⟩
        · rintro⟨t,an⟩ cS cT I ⟨rfl,ab,_⟩
          refine qc ?_
          refine q8 ?_
          refine zh c ?_
          refine zh (vi f) ?_
          refine zh (vi m) ?_
          obtain⟨s,bu,d⟩:=zu d
          refine z9b (cs:=[]) (vs:=[c,(vi f),(vi m)]) (φ:=fun v=>v= .tuple #[(vi s.1),(vi s.2)]) rfl q7r rfl rfl (fun bv ao ap=>z90 (z6x ((z6y 0 rfl ab ao ap):VRep (yz (zz .u16)) bv c t.2)) bu) fun cU bw=>?_
          obtain rfl:=bw
          refine zh (.tuple #[(vi s.1),(vi s.2)]) ?_
          refine zx (qx rfl rfl) ?_
          refine zx (qx rfl rfl) ?_
          refine zk (vi s.1) ?_
          refine zk (vi s.2) ?_
          refine ze ?_
          obtain⟨n,k,d⟩:=zu d
          refine qz (γ:=(Int×Int×List Int)×Frag) (rs [11,13,49,61]) (fun g=>[(11,(vi g.1.1)),(12,(vi g.1.2.1))]) (fun g=>[g.2]++A) (fun g R=>n=g.1∧ORep (zz .u16) R g.2 c g.1.2.2∧True) ?_ ?_
          · refine qc ?_
            refine q8 ?_
            refine zh (vi s.2) ?_
            refine zx (xk rfl rfl) ?_
            refine ze ?_
            refine zy rfl k (fun k=>?_) (fun k=>?_)
            · refine qc ?_
              refine q8 ?_
              refine zh c ?_
              refine zh (vi f) ?_
              refine zh (vi m) ?_
              obtain⟨bx,bA,k⟩:=zu k
              refine z0j (Oc:=[an]) (Or:=[]++A) (cs:=[]) (vs:=[c,(vi f),(vi m)]) rfl q7u rfl rfl ((pk 0 rfl (List.Perm.refl _))) (z8j ab bA) fun cV cW b2 aq bB=>?_
              obtain⟨bC,rfl,rfl,bD⟩:=bB
              refine ze ?_
              refine qc ?_
              refine q8 ?_
              refine zh (vi m) ?_
              obtain⟨bE,k⟩:=zg k
              refine zx (ww rfl rfl bE) ?_
              refine zh (vi s.1) ?_
              refine zh (vi f) ?_
              obtain⟨bF,k⟩:=zg k
              refine zx (ww rfl rfl bF) ?_
              obtain⟨bG,k⟩:=zg k
              refine zx (ww rfl rfl bG) ?_
              refine zk (vi ((m-1)-(s.1-f))) ?_
              refine ze ?_
              refine q8 ?_
              refine zk (vi 1) ?_
              refine ze ?_
              exact⟨dkt,aq,ji,(((m-1)-(s.1-f),1,bx),bC),⟨rfl,rfl,trivial⟩,prm,(Option.some.inj k).symm,bD,trivial⟩
            · refine qi ?_
              exact⟨dkt,(RH.le.refl _),ji,((s.1,s.2,t.2),an),⟨rfl,rfl,trivial⟩,prm,(Option.some.inj k).symm,ab,trivial⟩
          · rintro⟨n,ar⟩ cX cY K ⟨rfl,au,_⟩
            obtain⟨bH,k,d⟩:=zu d
            refine qz (γ:=(List Int)×Frag) (rs [61,73]) (fun g=>[]) (fun g=>[g.2]++A) (fun g R=>bH=Ex.go g.1∧ORep (zz .u16) R g.2 c g.1∧True) ?_ ?_
            · refine qc ?_
              refine q8 ?_
              refine jd (v:=(.bool x5)) rfl (z8 rfl) ?_
              refine jd (v:=(.bool x5)) rfl (z8 rfl) ?_
              refine qo rfl rfl rfl rfl (fun p=>qf (v:=(.bool x6)) (z8 rfl)) fun cZ bI=>?_
              refine jd rfl (uw rfl (fun hb=>(bI.1 (zl rfl hb))) rfl) ?_
              refine jd (v:=(.bool (x5&&x6))) rfl (z8 rfl) ?_
              refine qo rfl rfl rfl rfl (fun p=>qf (v:=(vi n.2.1)) (z8 rfl)) fun c0 bJ=>?_
              refine qo rfl rfl rfl rfl (fun p=>qf (xk (bJ.1 (zl rfl p)) rfl)) fun c1 bK=>?_
              refine jd rfl (uw rfl (fun hb=>(bK.1 (zl rfl hb))) rfl) ?_
              refine ze ?_
              refine zy rfl k (fun k=>?_) (fun k=>?_)
              · refine qc ?_
                refine q8 ?_
                refine zh c ?_
                refine zh (vi f) ?_
                refine zh (vi m) ?_
                obtain⟨aw,ax,k⟩:=zu k
                refine z0j (Oc:=[ar]) (Or:=[]++A) (cs:=[]) (vs:=[c,(vi f),(vi m)]) rfl q97 rfl rfl ((pk 0 rfl (List.Perm.refl _))) (z6r au ax) fun b3 b4 bL M ay=>?_
                obtain⟨O,rfl,rfl,W⟩:=ay
                refine ze ?_
                refine zy rfl k (fun k=>?_) (fun k=>?_)
                · refine qp ?_
                  replace d:=z02 k d
                  obtain rfl:=Option.some.inj d
                  refine bz (D:=[]) (J:=[]) (O':=[O]) (rs:=[]) (vs:=[]) (((aa.trans I).trans K).trans M) ((pk 0 rfl (List.Perm.refl _))) rfl trivial ?_
                  exact⟨O,rfl,rfl,W⟩
                · refine qi ?_
                  exact⟨dkt,M,ji,(aw.2,O),trivial,prm,(Option.some.inj k).symm,W,trivial⟩
              · refine qi ?_
                exact⟨dkt,(RH.le.refl _),ji,(n.2.2,ar),trivial,prm,(Option.some.inj k).symm,au,trivial⟩
            · rintro⟨x,az⟩ b5 c2 P ⟨rfl,L,_⟩
              replace d:=z1c d
              refine qc ?_
              refine qc ?_
              obtain⟨aA,Q,S,d⟩:=zyu d
              obtain⟨B,aB,d⟩:=zu d
              refine xq 15 [] [phX (vi f),phX (.bool (decide (0<f))),phX (.bool (decide (0<f))),phG (true&&((decide (0<f))==true)) (phX c),phG (true&&((decide (0<f))==true)) (phX (vi f)),phG (true&&((decide (0<f))==true)) (phX (vi (f-1))),phG (true&&((decide (0<f))==true)) ((fun u _=>gy (zz .u16) c x u (f-1).toNat)),phG (true&&((decide (0<f))==true)) (phX (.int .u16 (ix x (f-1)))),phG (true&&((decide (0<f))==true)) (phX c),phG (true&&((decide (0<f))==true)) (phX (vi n.1)),phG (true&&((decide (0<f))==true)) ((fun u _=>gy (zz .u16) c x u n.1.toNat)),phG (true&&((decide (0<f))==true)) (phX (.int .u16 (ix x n.1))),phG (true&&((decide (0<f))==true)) (phX (.bool (B.getD default))),phG (true&&((decide (0<f))==true)) (phX (.bool (!(B.getD default)))),phX (.bool ((decide (0<f))&&(!(B.getD default))))] mixed (by kernel_rfl) (wz ⟨zi,zi,zi,(qy zi),(qy zi),(qy zi),(qy (fun _ _ _ _ h=>h)),(qy zi),(qy zi),(qy zi),(qy (fun _ _ _ _ h=>h)),(qy zi),(qy zi),(qy zi),zi,trivial⟩) ⟨?_,?_,?_,?_,?_,?_,?_,?_,?_,?_,?_,?_,?_,?_,?_,trivial⟩ fun b6 w=>?_
              · intro l c3 o y hd
                have a1:l 1=(vi f):=y 1 rfl
                exact zf rfl rfl rfl (zo (z8 a1))
              · rintro l c4 o y ⟨q,_⟩
                have bN:=q rfl
                exact zf rfl rfl rfl (zo (l5 bN rfl))
              · rintro l c5 o y ⟨q,_⟩
                have bO:=q rfl
                exact zf rfl rfl rfl (zo (z8 bO))
              · rintro l c6 o y ⟨q,_⟩
                have a0:l 0=c:=y 0 rfl
                exact zw (Gj:=true) (Bj:=decide (0<f)) rfl rfl rfl (jr (q rfl)) rfl (fun z p=>zo (z8 a0))
              · rintro l c7 o y ⟨q,_⟩
                have a1:l 1=(vi f):=y 1 rfl
                exact zw (Gj:=true) (Bj:=decide (0<f)) rfl rfl rfl (jr (q rfl)) rfl (fun z p=>zo (z8 a1))
              · rintro l c8 o y ⟨q,E,_⟩
                have aC:=q rfl
                exact zw (Gj:=true) (Bj:=decide (0<f)) rfl rfl rfl (jr (E rfl)) rfl (fun z p=>zo (ww (show l 77=(vi f) from aC.1 (zl rfl p)) rfl (aA (zl z p))))
              · rintro l c9 o y ⟨q,E,d2,_⟩
                have aE:=q rfl
                have aF:=E rfl
                exact zw (Gj:=true) (Bj:=decide (0<f)) rfl rfl rfl (jr (d2 rfl)) rfl (fun z p=>je (i:=(f-1).toNat) o7 (show l 76=c from aE.1 (zl rfl p)) (L.mono o) (zt (show l 78=(vi (f-1)) from aF.1 (zl rfl p)) (Q (zl z p)).1) (qd (Q (zl z p))))
              · rintro l da o y ⟨q,E,_⟩
                have aG:=q rfl
                exact zw (Gj:=true) (Bj:=decide (0<f)) rfl rfl rfl (jr (E rfl)) rfl (fun z p=>jm (uj (i:=(f-1).toNat) (j:=0) og (L.mono o) rfl rfl (aG.1 (zl rfl p)) (qd (Q (zl z p)))) (fun _ _ h=>ql.1 h))
              · rintro l db o y ⟨q,_⟩
                have a0:l 0=c:=y 0 rfl
                exact zw (Gj:=true) (Bj:=decide (0<f)) rfl rfl rfl (jr (q rfl)) rfl (fun z p=>zo (z8 a0))
              · rintro l dc o y ⟨q,_⟩
                have bQ:l 11=(vi n.1):=y 11 rfl
                exact zw (Gj:=true) (Bj:=decide (0<f)) rfl rfl rfl (jr (q rfl)) rfl (fun z p=>zo (z8 bQ))
              · rintro l b7 o y ⟨q,E,d2,_⟩
                have aH:=q rfl
                have aI:=E rfl
                exact zw (Gj:=true) (Bj:=decide (0<f)) rfl rfl rfl (jr (d2 rfl)) rfl (fun z p=>je (i:=n.1.toNat) o7 (show l 81=c from aH.1 (zl rfl p)) (L.mono o) (zt (show l 82=(vi n.1) from aI.1 (zl rfl p)) (S (zl z p)).1) (qd (S (zl z p))))
              · rintro l b8 o y ⟨q,E,_⟩
                have aJ:=q rfl
                exact zw (Gj:=true) (Bj:=decide (0<f)) rfl rfl rfl (jr (E rfl)) rfl (fun z p=>jm (uj (i:=n.1.toNat) (j:=0) og (L.mono o) rfl rfl (aJ.1 (zl rfl p)) (qd (S (zl z p)))) (fun _ _ h=>ql.1 h))
              · rintro l X o y ⟨q,E,d2,d3,_⟩
                have aK:phG (true&&((decide (0<f))==true)) (phX (.int .u16 (ix x (f-1)))) (l 80) X:=q rfl
                have aL:phG (true&&((decide (0<f))==true)) (phX (.int .u16 (ix x n.1))) (l 84) X:=E rfl
                exact zw (Gj:=true) (Bj:=decide (0<f)) rfl rfl rfl (jr (d2 rfl)) rfl (fun z p=>kz (vs:=[(.int .u16 (ix x (f-1))),(.int .u16 (ix x n.1))]) zcc (by simp only [List.map,ev,(show l 80=(.int .u16 (ix x (f-1))) from aK.1 (zl rfl p)),(show l 84=(.int .u16 (ix x n.1)) from aL.1 (zl rfl p))]<;>rfl) ((by have bR:=(sj aB (zl z p));exact df  bR)) (fun _ _ h=>h))
              · rintro l b9 o y ⟨q,E,_⟩
                have aM:=q rfl
                exact zw (Gj:=true) (Bj:=decide (0<f)) rfl rfl rfl (jr (E rfl)) rfl (fun z p=>zo (fo (show l 85=(.bool (B.getD default)) from aM.1 (zl rfl p))))
              · rintro l ca o y ⟨q,E,_⟩
                have bS:=q rfl
                have aN:=E rfl
                exact zf rfl rfl rfl (zo (uw bS (fun hb=>(show l 86=(.bool (!(B.getD default))) from aN.1 (zl rfl hb))) rfl))
              intro cb aO
              intro cc aP
              intro cd aQ
              intro ce cf
              intro cg ch
              intro ci cj
              intro ck cl
              intro cm cn
              intro co cp
              intro cq cr
              intro ct cu
              intro cv cw
              intro cx cy
              intro cz cA
              intro cB aR
              obtain rfl:=Eq.symm aO
              obtain rfl:=Eq.symm aP
              obtain rfl:=Eq.symm aQ
              obtain rfl:=Eq.symm aR
              refine ze ?_
              refine zy rfl d (fun d=>?_) (fun d=>?_)
              · refine qc ?_
                refine q8 ?_
                refine zh c ?_
                refine zh (vi f) ?_
                refine zh (vi m) ?_
                refine zh (vi n.1) ?_
                obtain⟨C,aS,d⟩:=zu d
                refine z0j (Oc:=[az]) (Or:=[]++A) (cs:=[]) (vs:=[c,(vi f),(vi m),(vi n.1)]) rfl q9b rfl rfl ((pk 0 rfl (List.Perm.refl _))) (z8f (L.mono w) aS) fun cC cD bT ac aT=>?_
                obtain⟨aU,rfl,rfl,aV⟩:=aT
                refine zk (vi C.1) ?_
                refine ze ?_
                refine qc ?_
                refine q8 ?_
                refine zh (vi C.1) ?_
                refine zk (vi C.1) ?_
                refine ze ?_
                refine jk ?_
                exact⟨dkt,((((I.trans K).trans P).trans w).trans ac),ji,(F1,C.1,m,t.1,x5,x6,C.2,aU),Nat.lt_succ_self _,⟨rfl,rfl,rfl,rfl,rfl,trivial⟩,prm,d,aV,trivial⟩
              · refine qi ?_
                refine qc ?_
                refine q8 ?_
                refine zh c ?_
                refine zh (vi f) ?_
                refine zh (vi m) ?_
                refine zh (vi n.1) ?_
                obtain⟨e,aW,d⟩:=zu d
                refine z0j (Oc:=[az]) (Or:=[]++A) (cs:=[]) (vs:=[c,(vi f),(vi m),(vi n.1)]) rfl q89 rfl rfl ((pk 0 rfl (List.Perm.refl _))) (z9p (L.mono w) aW) fun cE cF bU T aX=>?_
                obtain⟨Y,rfl,rfl,Z⟩:=aX
                refine zh (.tuple #[(vi e.1),(.bool e.2.1)]) ?_
                refine zx (qx rfl rfl) ?_
                refine zx (qx rfl rfl) ?_
                refine zk (vi e.1) ?_
                refine zk (.bool e.2.1) ?_
                refine ze ?_
                refine qc ?_
                refine q8 ?_
                refine zh (.bool e.2.1) ?_
                refine zk (.bool e.2.1) ?_
                refine ze ?_
                refine qc ?_
                refine q8 ?_
                refine zh (vi e.1) ?_
                refine zh (vi f) ?_
                obtain⟨aY,d⟩:=zg d
                refine zx (ww rfl rfl aY) ?_
                refine zh (vi m) ?_
                refine zh (vi e.1) ?_
                obtain⟨aZ,d⟩:=zg d
                refine zx (ww rfl rfl aZ) ?_
                refine zk (vi (e.1-f)) ?_
                refine zk (vi (m-e.1)) ?_
                refine ze ?_
                refine qc ?_
                refine q8 ?_
                refine zh (vi (m-f)) ?_
                obtain⟨a2,d⟩:=zg d
                refine zx (z6m rfl rfl a2) ?_
                refine zk (vi ((m-f)/8)) ?_
                refine ze ?_
                refine qc ?_
                refine q8 ?_
                refine zh (vi (e.1-f)) ?_
                refine zh (vi (m-e.1)) ?_
                refine zx (jg rfl rfl) ?_
                refine ze ?_
                refine zy rfl d (fun d=>?_) (fun d=>?_)
                · refine qc ?_
                  refine q8 ?_
                  refine zh (vi (e.1-f)) ?_
                  refine zh (vi ((m-f)/8)) ?_
                  refine zx (z07 rfl rfl) ?_
                  refine zk (.bool (decide (((m-f)/8)≤(e.1-f)))) ?_
                  refine ze ?_
                  refine qc ?_
                  refine q8 ?_
                  refine zh c ?_
                  refine zh (vi f) ?_
                  refine zh (vi e.1) ?_
                  refine zh (vi t.1) ?_
                  obtain⟨a3,a4,d⟩:=zu d
                  refine z0j (Oc:=[Y]) (Or:=[]++A) (cs:=[]) (vs:=[c,(vi f),(vi e.1),(vi t.1)]) rfl q5u rfl rfl ((pk 0 rfl (List.Perm.refl _))) (ih Z a4) fun cG cH bV ad a5=>?_
                  obtain⟨a6,rfl,rfl,a7⟩:=a5
                  refine ze ?_
                  refine q8 ?_
                  refine zh (vi e.1) ?_
                  obtain⟨a8,d⟩:=zg d
                  refine zx (ja rfl rfl a8) ?_
                  refine zk (vi (e.1+1)) ?_
                  refine ze ?_
                  exact⟨dkt,(((((I.trans K).trans P).trans w).trans T).trans ad),ji,(F1,e.1+1,m,t.1,decide (((m-f)/8)≤(e.1-f)),e.2.1,a3,a6),Nat.lt_succ_self _,⟨rfl,rfl,rfl,rfl,rfl,trivial⟩,prm,d,a7,trivial⟩
                · refine qc ?_
                  refine q8 ?_
                  refine zh (vi (m-e.1)) ?_
                  refine zh (vi ((m-f)/8)) ?_
                  refine zx (z07 rfl rfl) ?_
                  refine zk (.bool (decide (((m-f)/8)≤(m-e.1)))) ?_
                  refine ze ?_
                  refine qc ?_
                  refine q8 ?_
                  refine zh c ?_
                  refine zh (vi e.1) ?_
                  obtain⟨a9,d⟩:=zg d
                  refine zx (ja rfl rfl a9) ?_
                  refine zh (vi m) ?_
                  refine zh (vi t.1) ?_
                  obtain⟨ba,bb,d⟩:=zu d
                  refine z0j (Oc:=[Y]) (Or:=[]++A) (cs:=[]) (vs:=[c,(vi (e.1+1)),(vi m),(vi t.1)]) rfl q5u rfl rfl ((pk 0 rfl (List.Perm.refl _))) (ih Z bb) fun cI cJ bW ae bc=>?_
                  obtain⟨be,rfl,rfl,bf⟩:=bc
                  refine ze ?_
                  refine q8 ?_
                  refine zh (vi e.1) ?_
                  refine zk (vi e.1) ?_
                  refine ze ?_
                  exact⟨dkt,(((((I.trans K).trans P).trans w).trans T).trans ae),ji,(F1,f,e.1,t.1,decide (((m-f)/8)≤(m-e.1)),e.2.1,ba,be),Nat.lt_succ_self _,⟨rfl,rfl,rfl,rfl,rfl,trivial⟩,prm,d,bf,trivial⟩
theorem za7{N:Nat}{R:RH}{data:List Int}{c:Value}{fF:Frag}(e:ORep (zz .u16) R fF c data){a:Int}{b:Int}{limit:Int}{r:List Int}(f:yh N N data a b limit=some r):CallG prog 89 #[c,(vi a),(vi b),(vi limit)] R [fF] (fun v R' O'=> ∃ d,v= .tuple #[]∧O'=[d]∧ORep (zz .u16) R' d c r):=z8w N e f
end GV
end Go.Proofs.YtjmlpkkbmnjhcaaGreat
