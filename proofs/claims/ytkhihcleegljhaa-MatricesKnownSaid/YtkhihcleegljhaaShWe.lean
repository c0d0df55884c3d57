import Derived.Test.YtkhihcleegljhaaShWd
import Derived.Test.YtkhihcleegljhaaRows
set_option linter.unusedVariables false
set_option linter.unusedSimpArgs false
set_option linter.unusedSectionVars false
namespace Go.Proofs.Ytkhihcleegljhaa
namespace GV
open _root_.Go.Proofs.Try
open Go.IntWalk
set_option maxRecDepth 100000
set_option maxHeartbeats 20000000
theorem zlh:Enters prog 95:=enters_of func95 rfl (by kernel_rfl)
theorem z3a{N:Nat}{R:RH}{data:List Int}{d:Value}{fC:Frag}(aa:ORep (zm .u64) R fC d data){a:Int}{b:Int}{pivot:Int}{r:Int×Bool×List Int}(Q:l8 N data a b pivot=some r):CallG prog 96 #[d,(vi a),(vi b),(vi pivot)] R [fC] (fun v R' O'=> ∃ aP,v= .tuple #[(vi r.1),(.bool r.2.1)]∧O'=[aP]∧ORep (zm .u64) R' aP d r.2.2):=by
 refine yo (args:=[d,(vi a),(vi b),(vi pivot)]) func96 rfl rfl fun A=>?_;rw [l8] at Q;refine zq (zl (vi 0) (zl (.bool false) (ze (zw ?_))));obtain⟨g1,g2,g3,g4,Q⟩:=zi1 Q
 refine ni [13,15] [(fun es=>phX d),(fun es=>phX (vi a)),(fun es=>phX d),(fun es=>phX (vi pivot)),(fun es=>phX d),(fun es=>phX (vi pivot)),(fun es=>(fun u _=>wu (zm .u64) d data u pivot.toNat)),(fun es=>phX (.int .u64 (ix data pivot))),(fun es=>phX d),(fun es=>phX (vi a)),(fun es=>(fun u _=>wu (zm .u64) d data u a.toNat)),(fun es=>phX (.int .u64 (ix data a))),(fun es=>(fun u _=>wu (zm .u64) d data u a.toNat)),(fun es=>(fun _ _=>True)),(fun es=>(fun u _=>wu (zm .u64) d data u pivot.toNat)),(fun es=>(fun _ _=>True))] (fun fl es R O=>(fl=[false,false]∧O.Perm ([fC]++A)∧True)∨(fl=[true,false]∧ ∃ (fA:Frag),O.Perm ([fA]++A)∧ORep (zm .u64) R fA d (up data a (ix data pivot))∧True)∨(fl=[true,true]∧ ∃ (fA:Frag),O.Perm ([fA]++A)∧ORep (zm .u64) R fA d (up (up data a (ix data pivot)) pivot (ix data a))∧True)) mixed (by kernel_rfl) ⟨(z8 za),(z8 za),(z8 za),(z8 za),(z8 za),(z8 za),(z8 (fun _ _ _ _ h=>h)),(z8 za),(z8 za),(z8 za),(z8 (fun _ _ _ _ h=>h)),(z8 za),(z8 (fun _ _ _ _ h=>h)),(fun _ _ _ _ _ h=>h),(z8 (fun _ _ _ _ h=>h)),(fun _ _ _ _ _ h=>h),trivial⟩ (by rintro fl es R R' O k (⟨rfl,t,_⟩|⟨rfl,fA,t,c,_⟩|⟨rfl,fA,t,c,_⟩);exact(.inl ⟨rfl,t,trivial⟩);exact(.inr (.inl ⟨rfl,fA,t,(c.mono k),trivial⟩));exact(.inr (.inr ⟨rfl,fA,t,(c.mono k),trivial⟩))) ⟨(fun _ _ _ _ _ h=>h),(fun _ _ _ _ _ h=>h),(fun _ _ _ _ _ h=>h),(fun _ _ _ _ _ h=>h),(fun _ _ _ _ _ h=>h),(fun _ _ _ _ _ h=>h),(fun _ _ _ _ _ h=>h),(fun _ _ _ _ _ h=>h),(fun _ _ _ _ _ h=>h),(fun _ _ _ _ _ h=>h),(fun _ _ _ _ _ h=>h),(fun _ _ _ _ _ h=>h),(fun _ _ _ _ _ h=>h),(fun _ _ _ _ _ h=>h),(fun _ _ _ _ _ h=>h),(fun _ _ _ _ _ h=>h),trivial⟩ (fun es=> .inl ⟨rfl,(List.Perm.refl _),trivial⟩) ⟨?_,?_,?_,?_,?_,?_,?_,?_,?_,?_,?_,?_,?_,?_,?_,?_,trivial⟩ fun R5 bT=>?_
 intro l aA fl O k m o y z;exact zf (zb (m 0 rfl));intro l aB fl O k m o y z;exact zf (zb (m 1 rfl));intro l aC fl O k m o y z;obtain⟨n,_⟩:=o;exact zf (zb (m 0 rfl));intro l aD fl O k m o y z;obtain⟨n,_⟩:=o;exact zf (zb (m 3 rfl));intro l aE fl O k m o y z;exact zf (zb (m 0 rfl))
 intro l aF fl O k m o y z;exact zf (zb (m 3 rfl));intro l aG fl O k m o y z;obtain⟨n,w,_⟩:=o;exact qf (i:=pivot.toNat) yn (n rfl) (aa.mono k) (zk (w rfl) g1.1) (zy g1);intro l aH fl O k m o y z;obtain⟨n,_⟩:=o;rcases z with⟨rfl,t,_⟩|⟨rfl,fA,t,c,_⟩|⟨rfl,fA,t,c,_⟩
 exact jk t (j3 (jh (i:=pivot.toNat) (j:=0) yg (aa.mono k) rfl rfl (n rfl) (zy g1)) (fun _ _ h=>q9.1 h));exact jv y (by kernel_rfl);exact jv y (by kernel_rfl);intro l aI fl O k m o y z;exact zf (zb (m 0 rfl));intro l aJ fl O k m o y z;exact zf (zb (m 1 rfl));intro l af fl O k m o y z
 obtain⟨n,w,_⟩:=o;exact qf (i:=a.toNat) yn (n rfl) (aa.mono k) (zk (w rfl) g2.1) (zy g2);intro l ag fl O k m o y z;obtain⟨n,_⟩:=o;rcases z with⟨rfl,t,_⟩|⟨rfl,fA,t,c,_⟩|⟨rfl,fA,t,c,_⟩
 exact jk t (j3 (jh (i:=a.toNat) (j:=0) yg (aa.mono k) rfl rfl (n rfl) (zy g2)) (fun _ _ h=>q9.1 h));exact jv y (by kernel_rfl);exact jv y (by kernel_rfl);intro l U fl O k m o y z;obtain⟨n,w,Y,d3,d4,d5,d6,d7,d8,d9,ab,ac,ad,ae,_⟩:=o
 exact qf (i:=a.toNat) yn (n rfl) (aa.mono k) (zk (w rfl) g3.1) (zy g3);intro l ah fl O k m o y hf z;obtain⟨n,w,Y,d3,d4,d5,d6,d7,d8,d9,ab,ac,ad,ae,_⟩:=o;rcases z with⟨rfl,t,_⟩|⟨rfl,fA,t,c,_⟩|⟨rfl,fA,t,c,_⟩;refine kv t ?_
 refine Eff.mono (ko (i:=a.toNat) (j:=0) yg (aa.mono k) rfl rfl (n rfl) (zy g3) (w rfl) (q9.2 rfl)) ?_;rintro v R' O' hle' ⟨rfl,f,rfl,ho⟩;exact⟨trivial,.inr (.inl ⟨rfl,f,(List.Perm.refl _),ho,trivial⟩)⟩;cases hf;cases hf;intro l an fl O k m o y z;obtain⟨n,w,Y,d3,d4,d5,d6,d7,d8,d9,ab,ac,ad,ae,ay,az,_⟩:=o
 exact qf (i:=pivot.toNat) yn (n rfl) (aa.mono k) (zk (w rfl) g4.1) (zy g4);intro l aQ fl O k m o y hf z;obtain⟨n,w,Y,d3,d4,d5,d6,d7,d8,d9,ab,ac,ad,ae,ay,az,bv,_⟩:=o;rcases z with⟨rfl,t,_⟩|⟨rfl,fA,t,c,_⟩|⟨rfl,fA,t,c,_⟩;exact jv y (by kernel_rfl);refine kv t ?_
 refine Eff.mono (ko (i:=pivot.toNat) (j:=0) yg c rfl rfl (z07 (n rfl)) (by rw [up,List.length_set];exact zy g4) (w rfl) (q9.2 rfl)) ?_;rintro v R' O' hle' ⟨rfl,f,rfl,ho⟩;exact⟨trivial,.inr (.inr ⟨rfl,f,(List.Perm.refl _),ho,trivial⟩)⟩;cases hf
 intro v7 v8 v9 gw gx gy gz gA gB gC gD gE gF gG da db dc dd de df gH dg dh di gI dj gJ gK;rintro dz (⟨e,_⟩|⟨e,_⟩|⟨_,aN,t,X,_⟩);cases e;cases e;refine⟨[],_,t,?_⟩;replace X:ORep (zm .u64) R5 aN d (up (up data a (ix data pivot)) pivot (ix data a)):=X;obtain rfl:=Eq.symm da;obtain rfl:=Eq.symm db;obtain rfl:=Eq.symm dc
 obtain rfl:=Eq.symm dd;obtain rfl:=Eq.symm de;obtain rfl:=Eq.symm df;obtain rfl:=Eq.symm dg;obtain rfl:=Eq.symm dh;obtain rfl:=Eq.symm di;obtain rfl:=Eq.symm dj;refine qw (zh (vi a) ?_);obtain⟨dk,Q⟩:=zg Q;refine zz (qm rfl rfl dk) (zh (vi b) ?_);obtain⟨dl,Q⟩:=zg Q
 refine zz (kz rfl rfl dl) (zl (vi (a+1)) (zl (vi (b-1)) (ze ?_)));obtain⟨F,s,Q⟩:=zt Q;refine ql (γ:=Int) (rs [10,11,30,46]) (fun g=>[(10,(vi g))]) (fun g=>[aN]++A) (fun g R=>F=g∧True) ?_ ?_
 refine qa (j4 (γ:=Nat×Int) (rs [10,11,30,46]) (fun g=>[(10,(vi g.2))]) (fun g=>[aN]++A) (fun g R=>gm N data a b pivot g.1 g.2=some F∧True) (fun g=>g.1) (N,a+1) prm ⟨s,trivial⟩ ?_);clear s;rintro⟨bw,S⟩ gL gM aK ⟨s,_⟩;rcases bw with _|bw;exact qj s
 replace s:gm N data a b pivot (bw+1) S=some F:=s;rw [gm] at s;refine zw (zw ?_);obtain⟨bD,bE,s⟩:=zi0 s;obtain⟨bF,dm,s⟩:=zt s;let G1:=(true&&((decide (S≤(b-1)))==true))
 refine bu 14 [] [phX (vi S),phX (vi (b-1)),phX (.bool (decide (S≤(b-1)))),phX (.bool (decide (S≤(b-1)))),phG G1 (phX d),phG G1 (phX (vi S)),phG G1 ((fun u _=>wu (zm .u64) d (up (up data a (ix data pivot)) pivot (ix data a)) u S.toNat)),phG G1 (phX (.int .u64 (ix (up (up data a (ix data pivot)) pivot (ix data a)) S))),phG G1 (phX d),phG G1 (phX (vi a)),phG G1 ((fun u _=>wu (zm .u64) d (up (up data a (ix data pivot)) pivot (ix data a)) u a.toNat)),phG G1 (phX (.int .u64 (ix (up (up data a (ix data pivot)) pivot (ix data a)) a))),phG G1 (phX (.bool (bF.getD default))),phX (.bool ((decide (S≤(b-1)))&&(bF.getD default)))] mixed (by kernel_rfl) (xu ⟨za,za,za,za,(qh za),(qh za),(qh (fun _ _ _ _ h=>h)),(qh za),(qh za),(qh za),(qh (fun _ _ _ _ h=>h)),(qh za),(qh za),za,trivial⟩) ⟨?_,?_,?_,?_,?_,?_,?_,?_,?_,?_,?_,?_,?_,?_,trivial⟩ fun gN bz=>?_
 intro l aA k m o;exact zi rfl rfl rfl (zf (zb (m 10 rfl)));intro l aB k m o;exact zi rfl rfl rfl (zf (zb (m 11 rfl)));rintro l aC k m ⟨n,w,_⟩;exact zi rfl rfl rfl (zf (z3m (n rfl) (w rfl)));rintro l aD k m ⟨n,_⟩;exact zi rfl rfl rfl (zf (zb (n rfl)));rintro l aE k m ⟨n,_⟩
 exact zx (Gj:=true) (Bj:=decide (S≤(b-1))) rfl rfl rfl (jl (n rfl)) rfl (fun K B=>zf (zb (m 0 rfl)));rintro l aF k m ⟨n,_⟩;exact zx (Gj:=true) (Bj:=decide (S≤(b-1))) rfl rfl rfl (jl (n rfl)) rfl (fun K B=>zf (zb (m 10 rfl)));rintro l aG k m ⟨n,w,Y,_⟩
 exact zx (Gj:=true) (Bj:=decide (S≤(b-1))) rfl rfl rfl (jl (Y rfl)) rfl (fun K B=>qf (i:=S.toNat) yn (show l 34=d from(n rfl).1 (zo rfl B)) ((X.mono aK).mono k) (zk (show l 35=(vi S) from(w rfl).1 (zo rfl B)) (bD (zo K B)).1) (zy (bD (zo K B))));rintro l aH k m ⟨n,w,_⟩
 exact zx (Gj:=true) (Bj:=decide (S≤(b-1))) rfl rfl rfl (jl (w rfl)) rfl (fun K B=>j3 (jh (i:=S.toNat) (j:=0) yg ((X.mono aK).mono k) rfl rfl ((n rfl).1 (zo rfl B)) (zy (bD (zo K B)))) (fun _ _ h=>q9.1 h));rintro l aI k m ⟨n,_⟩
 exact zx (Gj:=true) (Bj:=decide (S≤(b-1))) rfl rfl rfl (jl (n rfl)) rfl (fun K B=>zf (zb (m 0 rfl)));rintro l aJ k m ⟨n,_⟩;exact zx (Gj:=true) (Bj:=decide (S≤(b-1))) rfl rfl rfl (jl (n rfl)) rfl (fun K B=>zf (zb (m 1 rfl)));rintro l af k m ⟨n,w,Y,_⟩
 exact zx (Gj:=true) (Bj:=decide (S≤(b-1))) rfl rfl rfl (jl (Y rfl)) rfl (fun K B=>qf (i:=a.toNat) yn (show l 38=d from(n rfl).1 (zo rfl B)) ((X.mono aK).mono k) (zk (show l 39=(vi a) from(w rfl).1 (zo rfl B)) (bE (zo K B)).1) (zy (bE (zo K B))));rintro l ag k m ⟨n,w,_⟩
 exact zx (Gj:=true) (Bj:=decide (S≤(b-1))) rfl rfl rfl (jl (w rfl)) rfl (fun K B=>j3 (jh (i:=a.toNat) (j:=0) yg ((X.mono aK).mono k) rfl rfl ((n rfl).1 (zo rfl B)) (zy (bE (zo K B)))) (fun _ _ h=>q9.1 h));rintro l U k m ⟨n,w,Y,d3,_⟩
 have bU:phG G1 (phX (.int .u64 (ix (up (up data a (ix data pivot)) pivot (ix data a)) S))) (l 37) U:=n rfl;have bV:phG G1 (phX (.int .u64 (ix (up (up data a (ix data pivot)) pivot (ix data a)) a))) (l 41) U:=w rfl
 exact zx (Gj:=true) (Bj:=decide (S≤(b-1))) rfl rfl rfl (jl (Y rfl)) rfl (fun K B=>kw (vs:=[(.int .u64 (ix (up (up data a (ix data pivot)) pivot (ix data a)) S)),(.int .u64 (ix (up (up data a (ix data pivot)) pivot (ix data a)) a))]) z9f (by simp only [List.map,ev,(show l 37=(.int .u64 (ix (up (up data a (ix data pivot)) pivot (ix data a)) S)) from bU.1 (zo rfl B)),(show l 41=(.int .u64 (ix (up (up data a (ix data pivot)) pivot (ix data a)) a)) from bV.1 (zo rfl B))]<;>rfl) ((by have aO:=(dw dm (zo K B));exact yw  aO)) (fun _ _ h=>h))
 rintro l ah k m ⟨n,w,_⟩;exact zi rfl rfl rfl (zf (xg (n rfl) (fun hb=>(show l 42=(.bool (bF.getD default)) from(w rfl).1 (zo rfl hb))) rfl));intro gO dn gP dp gQ dq gR dr gS gT gU gV gW gX gY gZ g0 g5 g6 g7 g8 g9 hc he hg hh hi ds;obtain rfl:=Eq.symm dn;obtain rfl:=Eq.symm dp;obtain rfl:=Eq.symm dq;obtain rfl:=Eq.symm dr
 obtain rfl:=Eq.symm ds;refine ze (q8 rfl s (fun s=>?_) (fun s=>?_));refine qb (qa (zu (zh (vi S) ?_)));obtain⟨dt,s⟩:=zg s;refine zz (qm rfl rfl dt) (zl (vi (S+1)) (ze ?_));exact⟨dkt,bz,jg,(bw,S+1),Nat.lt_succ_self _,⟨rfl,trivial⟩,prm,s,trivial⟩;refine jb ?_
 exact⟨dkt,(aK.trans bz),jg,S,⟨rfl,trivial⟩,prm,(Option.some.inj s).symm,trivial⟩;rintro F hj hl L ⟨rfl,_⟩;obtain⟨G,s,Q⟩:=zt Q;refine ql (γ:=Int) (rs [11,12,46,63]) (fun g=>[(11,(vi g))]) (fun g=>[aN]++A) (fun g R=>G=g∧True) ?_ ?_
 refine qa (j4 (γ:=Nat×Int) (rs [11,12,46,63]) (fun g=>[(11,(vi g.2))]) (fun g=>[aN]++A) (fun g R=>xy N data a pivot F g.1 g.2=some G∧True) (fun g=>g.1) (N,b-1) prm ⟨s,trivial⟩ ?_);clear s;rintro⟨bx,M⟩ dA hm aL ⟨s,_⟩;rcases bx with _|bx;exact qj s
 replace s:xy N data a pivot F (bx+1) M=some G:=s;rw [xy] at s;refine zw (zw ?_);obtain⟨bH,bI,s⟩:=zi0 s;obtain⟨aX,bW,s⟩:=zt s;let G4:=(true&&((decide (F≤M))==true))
 refine bu 15 [] [phX (vi F),phX (vi M),phX (.bool (decide (F≤M))),phX (.bool (decide (F≤M))),phG G4 (phX d),phG G4 (phX (vi M)),phG G4 ((fun u _=>wu (zm .u64) d (up (up data a (ix data pivot)) pivot (ix data a)) u M.toNat)),phG G4 (phX (.int .u64 (ix (up (up data a (ix data pivot)) pivot (ix data a)) M))),phG G4 (phX d),phG G4 (phX (vi a)),phG G4 ((fun u _=>wu (zm .u64) d (up (up data a (ix data pivot)) pivot (ix data a)) u a.toNat)),phG G4 (phX (.int .u64 (ix (up (up data a (ix data pivot)) pivot (ix data a)) a))),phG G4 (phX (.bool (aX.getD default))),phG G4 (phX (.bool (!(aX.getD default)))),phX (.bool ((decide (F≤M))&&(!(aX.getD default))))] mixed (by kernel_rfl) (xu ⟨za,za,za,za,(qh za),(qh za),(qh (fun _ _ _ _ h=>h)),(qh za),(qh za),(qh za),(qh (fun _ _ _ _ h=>h)),(qh za),(qh za),(qh za),za,trivial⟩) ⟨?_,?_,?_,?_,?_,?_,?_,?_,?_,?_,?_,?_,?_,?_,?_,trivial⟩ fun dB aY=>?_
 intro l aA k m o;exact zi rfl rfl rfl (zf (zb (m 10 rfl)));intro l aB k m o;exact zi rfl rfl rfl (zf (zb (m 11 rfl)));rintro l aC k m ⟨n,w,_⟩;exact zi rfl rfl rfl (zf (z3m (n rfl) (w rfl)));rintro l aD k m ⟨n,_⟩;exact zi rfl rfl rfl (zf (zb (n rfl)));rintro l aE k m ⟨n,_⟩
 exact zx (Gj:=true) (Bj:=decide (F≤M)) rfl rfl rfl (jl (n rfl)) rfl (fun K B=>zf (zb (m 0 rfl)));rintro l aF k m ⟨n,_⟩;exact zx (Gj:=true) (Bj:=decide (F≤M)) rfl rfl rfl (jl (n rfl)) rfl (fun K B=>zf (zb (m 11 rfl)));rintro l aG k m ⟨n,w,Y,_⟩
 exact zx (Gj:=true) (Bj:=decide (F≤M)) rfl rfl rfl (jl (Y rfl)) rfl (fun K B=>qf (i:=M.toNat) yn (show l 50=d from(n rfl).1 (zo rfl B)) ((X.mono (L.trans aL)).mono k) (zk (show l 51=(vi M) from(w rfl).1 (zo rfl B)) (bH (zo K B)).1) (zy (bH (zo K B))));rintro l aH k m ⟨n,w,_⟩
 exact zx (Gj:=true) (Bj:=decide (F≤M)) rfl rfl rfl (jl (w rfl)) rfl (fun K B=>j3 (jh (i:=M.toNat) (j:=0) yg ((X.mono (L.trans aL)).mono k) rfl rfl ((n rfl).1 (zo rfl B)) (zy (bH (zo K B)))) (fun _ _ h=>q9.1 h));rintro l aI k m ⟨n,_⟩
 exact zx (Gj:=true) (Bj:=decide (F≤M)) rfl rfl rfl (jl (n rfl)) rfl (fun K B=>zf (zb (m 0 rfl)));rintro l aJ k m ⟨n,_⟩;exact zx (Gj:=true) (Bj:=decide (F≤M)) rfl rfl rfl (jl (n rfl)) rfl (fun K B=>zf (zb (m 1 rfl)));rintro l af k m ⟨n,w,Y,_⟩
 exact zx (Gj:=true) (Bj:=decide (F≤M)) rfl rfl rfl (jl (Y rfl)) rfl (fun K B=>qf (i:=a.toNat) yn (show l 54=d from(n rfl).1 (zo rfl B)) ((X.mono (L.trans aL)).mono k) (zk (show l 55=(vi a) from(w rfl).1 (zo rfl B)) (bI (zo K B)).1) (zy (bI (zo K B))));rintro l ag k m ⟨n,w,_⟩
 exact zx (Gj:=true) (Bj:=decide (F≤M)) rfl rfl rfl (jl (w rfl)) rfl (fun K B=>j3 (jh (i:=a.toNat) (j:=0) yg ((X.mono (L.trans aL)).mono k) rfl rfl ((n rfl).1 (zo rfl B)) (zy (bI (zo K B)))) (fun _ _ h=>q9.1 h));rintro l U k m ⟨n,w,Y,d3,_⟩
 have bX:phG G4 (phX (.int .u64 (ix (up (up data a (ix data pivot)) pivot (ix data a)) M))) (l 53) U:=n rfl;have bY:phG G4 (phX (.int .u64 (ix (up (up data a (ix data pivot)) pivot (ix data a)) a))) (l 57) U:=w rfl
 exact zx (Gj:=true) (Bj:=decide (F≤M)) rfl rfl rfl (jl (Y rfl)) rfl (fun K B=>kw (vs:=[(.int .u64 (ix (up (up data a (ix data pivot)) pivot (ix data a)) M)),(.int .u64 (ix (up (up data a (ix data pivot)) pivot (ix data a)) a))]) z9f (by simp only [List.map,ev,(show l 53=(.int .u64 (ix (up (up data a (ix data pivot)) pivot (ix data a)) M)) from bX.1 (zo rfl B)),(show l 57=(.int .u64 (ix (up (up data a (ix data pivot)) pivot (ix data a)) a)) from bY.1 (zo rfl B))]<;>rfl) ((by have aO:=(dw bW (zo K B));exact yw  aO)) (fun _ _ h=>h))
 rintro l ah k m ⟨n,w,_⟩;exact zx (Gj:=true) (Bj:=decide (F≤M)) rfl rfl rfl (jl (w rfl)) rfl (fun K B=>zf (ow (show l 58=(.bool (aX.getD default)) from(n rfl).1 (zo rfl B))));rintro l an k m ⟨n,w,_⟩
 exact zi rfl rfl rfl (zf (xg (n rfl) (fun hb=>(show l 59=(.bool (!(aX.getD default))) from(w rfl).1 (zo rfl hb))) rfl));intro dC bZ dD b0 dE b1 dF b2 dG dH dI dJ dK dL dM dN dO dP dQ dR dS dT dU dV dW dX dY dZ ea b3;obtain rfl:=Eq.symm bZ;obtain rfl:=Eq.symm b0;obtain rfl:=Eq.symm b1
 obtain rfl:=Eq.symm b2;obtain rfl:=Eq.symm b3;refine ze (q8 rfl s (fun s=>?_) (fun s=>?_));refine qb (qa (zu (zh (vi M) ?_)));obtain⟨b4,s⟩:=zg s;refine zz (kz rfl rfl b4) (zl (vi (M-1)) (ze ?_));exact⟨dkt,aY,jg,(bx,M-1),Nat.lt_succ_self _,⟨rfl,trivial⟩,prm,s,trivial⟩
 refine jb ?_;exact⟨dkt,(aL.trans aY),jg,M,⟨rfl,trivial⟩,prm,(Option.some.inj s).symm,trivial⟩;rintro G eb hn V ⟨rfl,_⟩;refine zw (zq (zh (vi F) (zh (vi G) (zz (oz rfl rfl) (ze (q8 rfl Q (fun Q=>?_) (fun Q=>?_)))))));refine zw ?_;obtain⟨aZ,a0,a1,a2,Q⟩:=zi1 Q
 refine ni [13,15] [(fun es=>phX d),(fun es=>phX (vi G)),(fun es=>phX d),(fun es=>phX (vi a)),(fun es=>phX d),(fun es=>phX (vi a)),(fun es=>(fun u _=>wu (zm .u64) d (up (up data a (ix data pivot)) pivot (ix data a)) u a.toNat)),(fun es=>phX (.int .u64 (ix (up (up data a (ix data pivot)) pivot (ix data a)) a))),(fun es=>phX d),(fun es=>phX (vi G)),(fun es=>(fun u _=>wu (zm .u64) d (up (up data a (ix data pivot)) pivot (ix data a)) u G.toNat)),(fun es=>phX (.int .u64 (ix (up (up data a (ix data pivot)) pivot (ix data a)) G))),(fun es=>(fun u _=>wu (zm .u64) d (up (up data a (ix data pivot)) pivot (ix data a)) u G.toNat)),(fun es=>(fun _ _=>True)),(fun es=>(fun u _=>wu (zm .u64) d (up (up data a (ix data pivot)) pivot (ix data a)) u a.toNat)),(fun es=>(fun _ _=>True))] (fun fl es R O=>(fl=[false,false]∧O.Perm ([aN]++A)∧True)∨(fl=[true,false]∧ ∃ (fA:Frag),O.Perm ([fA]++A)∧ORep (zm .u64) R fA d (up (up (up data a (ix data pivot)) pivot (ix data a)) G (ix (up (up data a (ix data pivot)) pivot (ix data a)) a))∧True)∨(fl=[true,true]∧ ∃ (fA:Frag),O.Perm ([fA]++A)∧ORep (zm .u64) R fA d (up (up (up (up data a (ix data pivot)) pivot (ix data a)) G (ix (up (up data a (ix data pivot)) pivot (ix data a)) a)) a (ix (up (up data a (ix data pivot)) pivot (ix data a)) G))∧True)) mixed (by kernel_rfl) ⟨(z8 za),(z8 za),(z8 za),(z8 za),(z8 za),(z8 za),(z8 (fun _ _ _ _ h=>h)),(z8 za),(z8 za),(z8 za),(z8 (fun _ _ _ _ h=>h)),(z8 za),(z8 (fun _ _ _ _ h=>h)),(fun _ _ _ _ _ h=>h),(z8 (fun _ _ _ _ h=>h)),(fun _ _ _ _ _ h=>h),trivial⟩ (by rintro fl es R R' O k (⟨rfl,t,_⟩|⟨rfl,fA,t,c,_⟩|⟨rfl,fA,t,c,_⟩);exact(.inl ⟨rfl,t,trivial⟩);exact(.inr (.inl ⟨rfl,fA,t,(c.mono k),trivial⟩));exact(.inr (.inr ⟨rfl,fA,t,(c.mono k),trivial⟩))) ⟨(fun _ _ _ _ _ h=>h),(fun _ _ _ _ _ h=>h),(fun _ _ _ _ _ h=>h),(fun _ _ _ _ _ h=>h),(fun _ _ _ _ _ h=>h),(fun _ _ _ _ _ h=>h),(fun _ _ _ _ _ h=>h),(fun _ _ _ _ _ h=>h),(fun _ _ _ _ _ h=>h),(fun _ _ _ _ _ h=>h),(fun _ _ _ _ _ h=>h),(fun _ _ _ _ _ h=>h),(fun _ _ _ _ _ h=>h),(fun _ _ _ _ _ h=>h),(fun _ _ _ _ _ h=>h),(fun _ _ _ _ _ h=>h),trivial⟩ (fun es=> .inl ⟨rfl,(List.Perm.refl _),trivial⟩) ⟨?_,?_,?_,?_,?_,?_,?_,?_,?_,?_,?_,?_,?_,?_,?_,?_,trivial⟩ fun b5 bJ=>?_
 intro l aA fl O k m o y z;exact zf (zb (m 0 rfl));intro l aB fl O k m o y z;exact zf (zb (m 11 rfl));intro l aC fl O k m o y z;obtain⟨n,_⟩:=o;exact zf (zb (m 0 rfl));intro l aD fl O k m o y z;obtain⟨n,_⟩:=o;exact zf (zb (m 1 rfl));intro l aE fl O k m o y z;exact zf (zb (m 0 rfl))
 intro l aF fl O k m o y z;exact zf (zb (m 1 rfl));intro l aG fl O k m o y z;obtain⟨n,w,_⟩:=o;exact qf (i:=a.toNat) yn (n rfl) ((X.mono (L.trans V)).mono k) (zk (w rfl) aZ.1) (zy aZ);intro l aH fl O k m o y z;obtain⟨n,_⟩:=o
 rcases z with⟨rfl,t,_⟩|⟨rfl,fA,t,c,_⟩|⟨rfl,fA,t,c,_⟩;exact jk t (j3 (jh (i:=a.toNat) (j:=0) yg ((X.mono (L.trans V)).mono k) rfl rfl (n rfl) (zy aZ)) (fun _ _ h=>q9.1 h));exact jv y (by kernel_rfl);exact jv y (by kernel_rfl);intro l aI fl O k m o y z;exact zf (zb (m 0 rfl))
 intro l aJ fl O k m o y z;exact zf (zb (m 11 rfl));intro l af fl O k m o y z;obtain⟨n,w,_⟩:=o;exact qf (i:=G.toNat) yn (n rfl) ((X.mono (L.trans V)).mono k) (zk (w rfl) a0.1) (zy a0);intro l ag fl O k m o y z;obtain⟨n,_⟩:=o
 rcases z with⟨rfl,t,_⟩|⟨rfl,fA,t,c,_⟩|⟨rfl,fA,t,c,_⟩;exact jk t (j3 (jh (i:=G.toNat) (j:=0) yg ((X.mono (L.trans V)).mono k) rfl rfl (n rfl) (zy a0)) (fun _ _ h=>q9.1 h));exact jv y (by kernel_rfl);exact jv y (by kernel_rfl);intro l U fl O k m o y z
 obtain⟨n,w,Y,d3,d4,d5,d6,d7,d8,d9,ab,ac,ad,ae,_⟩:=o;exact qf (i:=G.toNat) yn (n rfl) ((X.mono (L.trans V)).mono k) (zk (w rfl) a1.1) (zy a1);intro l ah fl O k m o y hf z;obtain⟨n,w,Y,d3,d4,d5,d6,d7,d8,d9,ab,ac,ad,ae,_⟩:=o
 rcases z with⟨rfl,t,_⟩|⟨rfl,fA,t,c,_⟩|⟨rfl,fA,t,c,_⟩;refine kv t ?_;refine Eff.mono (ko (i:=G.toNat) (j:=0) yg ((X.mono (L.trans V)).mono k) rfl rfl (n rfl) (zy a1) (w rfl) (q9.2 rfl)) ?_;rintro v R' O' hle' ⟨rfl,f,rfl,ho⟩;exact⟨trivial,.inr (.inl ⟨rfl,f,(List.Perm.refl _),ho,trivial⟩)⟩;cases hf
 cases hf;intro l an fl O k m o y z;obtain⟨n,w,Y,d3,d4,d5,d6,d7,d8,d9,ab,ac,ad,ae,ay,az,_⟩:=o;exact qf (i:=a.toNat) yn (n rfl) ((X.mono (L.trans V)).mono k) (zk (w rfl) a2.1) (zy a2);intro l aQ fl O k m o y hf z;obtain⟨n,w,Y,d3,d4,d5,d6,d7,d8,d9,ab,ac,ad,ae,ay,az,bv,_⟩:=o
 rcases z with⟨rfl,t,_⟩|⟨rfl,fA,t,c,_⟩|⟨rfl,fA,t,c,_⟩;exact jv y (by kernel_rfl);refine kv t ?_;refine Eff.mono (ko (i:=a.toNat) (j:=0) yg c rfl rfl (z07 (n rfl)) (by rw [up,List.length_set];exact zy a2) (w rfl) (q9.2 rfl)) ?_;rintro v R' O' hle' ⟨rfl,f,rfl,ho⟩
 exact⟨trivial,.inr (.inr ⟨rfl,f,(List.Perm.refl _),ho,trivial⟩)⟩;cases hf;intro ec ed ee ef eg eh ei ej ek el em en eo ep b6 b7 b8 b9 ca cb eq cc cd ce er cf et eu;rintro du (⟨e,_⟩|⟨e,_⟩|⟨_,a3,t,a4,_⟩);cases e;cases e;refine⟨[],_,t,?_⟩
 replace a4:ORep (zm .u64) b5 a3 d (up (up (up (up data a (ix data pivot)) pivot (ix data a)) G (ix (up (up data a (ix data pivot)) pivot (ix data a)) a)) a (ix (up (up data a (ix data pivot)) pivot (ix data a)) G)):=a4;obtain rfl:=Eq.symm b6;obtain rfl:=Eq.symm b7;obtain rfl:=Eq.symm b8;obtain rfl:=Eq.symm b9;obtain rfl:=Eq.symm ca
 obtain rfl:=Eq.symm cb;obtain rfl:=Eq.symm cc;obtain rfl:=Eq.symm cd;obtain rfl:=Eq.symm ce;obtain rfl:=Eq.symm cf;refine qw (zh (vi G) (zl (vi G) (zl (.bool true) (ze (qd ?_)))));obtain rfl:=Option.some.inj Q
 refine uq (D:=[]) (J:=[]) (O':=[a3]) (rs:=[.tmp 8,.tmp 9]) (vs:=[(vi G),(.bool true)]) (((bT.trans L).trans V).trans bJ) ((pk 0 rfl (List.Perm.refl _))) rfl ⟨rfl,rfl,trivial⟩ ?_;exact⟨a3,rfl,rfl,a4⟩;refine qb (zw ?_);obtain⟨a5,a6,a7,a8,Q⟩:=zi1 Q
 refine ni [13,15] [(fun es=>phX d),(fun es=>phX (vi F)),(fun es=>phX d),(fun es=>phX (vi G)),(fun es=>phX d),(fun es=>phX (vi G)),(fun es=>(fun u _=>wu (zm .u64) d (up (up data a (ix data pivot)) pivot (ix data a)) u G.toNat)),(fun es=>phX (.int .u64 (ix (up (up data a (ix data pivot)) pivot (ix data a)) G))),(fun es=>phX d),(fun es=>phX (vi F)),(fun es=>(fun u _=>wu (zm .u64) d (up (up data a (ix data pivot)) pivot (ix data a)) u F.toNat)),(fun es=>phX (.int .u64 (ix (up (up data a (ix data pivot)) pivot (ix data a)) F))),(fun es=>(fun u _=>wu (zm .u64) d (up (up data a (ix data pivot)) pivot (ix data a)) u F.toNat)),(fun es=>(fun _ _=>True)),(fun es=>(fun u _=>wu (zm .u64) d (up (up data a (ix data pivot)) pivot (ix data a)) u G.toNat)),(fun es=>(fun _ _=>True))] (fun fl es R O=>(fl=[false,false]∧O.Perm ([aN]++A)∧True)∨(fl=[true,false]∧ ∃ (fA:Frag),O.Perm ([fA]++A)∧ORep (zm .u64) R fA d (up (up (up data a (ix data pivot)) pivot (ix data a)) F (ix (up (up data a (ix data pivot)) pivot (ix data a)) G))∧True)∨(fl=[true,true]∧ ∃ (fA:Frag),O.Perm ([fA]++A)∧ORep (zm .u64) R fA d (up (up (up (up data a (ix data pivot)) pivot (ix data a)) F (ix (up (up data a (ix data pivot)) pivot (ix data a)) G)) G (ix (up (up data a (ix data pivot)) pivot (ix data a)) F))∧True)) mixed (by kernel_rfl) ⟨(z8 za),(z8 za),(z8 za),(z8 za),(z8 za),(z8 za),(z8 (fun _ _ _ _ h=>h)),(z8 za),(z8 za),(z8 za),(z8 (fun _ _ _ _ h=>h)),(z8 za),(z8 (fun _ _ _ _ h=>h)),(fun _ _ _ _ _ h=>h),(z8 (fun _ _ _ _ h=>h)),(fun _ _ _ _ _ h=>h),trivial⟩ (by rintro fl es R R' O k (⟨rfl,t,_⟩|⟨rfl,fA,t,c,_⟩|⟨rfl,fA,t,c,_⟩);exact(.inl ⟨rfl,t,trivial⟩);exact(.inr (.inl ⟨rfl,fA,t,(c.mono k),trivial⟩));exact(.inr (.inr ⟨rfl,fA,t,(c.mono k),trivial⟩))) ⟨(fun _ _ _ _ _ h=>h),(fun _ _ _ _ _ h=>h),(fun _ _ _ _ _ h=>h),(fun _ _ _ _ _ h=>h),(fun _ _ _ _ _ h=>h),(fun _ _ _ _ _ h=>h),(fun _ _ _ _ _ h=>h),(fun _ _ _ _ _ h=>h),(fun _ _ _ _ _ h=>h),(fun _ _ _ _ _ h=>h),(fun _ _ _ _ _ h=>h),(fun _ _ _ _ _ h=>h),(fun _ _ _ _ _ h=>h),(fun _ _ _ _ _ h=>h),(fun _ _ _ _ _ h=>h),(fun _ _ _ _ _ h=>h),trivial⟩ (fun es=> .inl ⟨rfl,(List.Perm.refl _),trivial⟩) ⟨?_,?_,?_,?_,?_,?_,?_,?_,?_,?_,?_,?_,?_,?_,?_,?_,trivial⟩ fun cg bK=>?_
 intro l aA fl O k m o y z;exact zf (zb (m 0 rfl));intro l aB fl O k m o y z;exact zf (zb (m 10 rfl));intro l aC fl O k m o y z;obtain⟨n,_⟩:=o;exact zf (zb (m 0 rfl));intro l aD fl O k m o y z;obtain⟨n,_⟩:=o;exact zf (zb (m 11 rfl));intro l aE fl O k m o y z;exact zf (zb (m 0 rfl))
 intro l aF fl O k m o y z;exact zf (zb (m 11 rfl));intro l aG fl O k m o y z;obtain⟨n,w,_⟩:=o;exact qf (i:=G.toNat) yn (n rfl) ((X.mono (L.trans V)).mono k) (zk (w rfl) a5.1) (zy a5);intro l aH fl O k m o y z;obtain⟨n,_⟩:=o
 rcases z with⟨rfl,t,_⟩|⟨rfl,fA,t,c,_⟩|⟨rfl,fA,t,c,_⟩;exact jk t (j3 (jh (i:=G.toNat) (j:=0) yg ((X.mono (L.trans V)).mono k) rfl rfl (n rfl) (zy a5)) (fun _ _ h=>q9.1 h));exact jv y (by kernel_rfl);exact jv y (by kernel_rfl);intro l aI fl O k m o y z;exact zf (zb (m 0 rfl))
 intro l aJ fl O k m o y z;exact zf (zb (m 10 rfl));intro l af fl O k m o y z;obtain⟨n,w,_⟩:=o;exact qf (i:=F.toNat) yn (n rfl) ((X.mono (L.trans V)).mono k) (zk (w rfl) a6.1) (zy a6);intro l ag fl O k m o y z;obtain⟨n,_⟩:=o
 rcases z with⟨rfl,t,_⟩|⟨rfl,fA,t,c,_⟩|⟨rfl,fA,t,c,_⟩;exact jk t (j3 (jh (i:=F.toNat) (j:=0) yg ((X.mono (L.trans V)).mono k) rfl rfl (n rfl) (zy a6)) (fun _ _ h=>q9.1 h));exact jv y (by kernel_rfl);exact jv y (by kernel_rfl);intro l U fl O k m o y z
 obtain⟨n,w,Y,d3,d4,d5,d6,d7,d8,d9,ab,ac,ad,ae,_⟩:=o;exact qf (i:=F.toNat) yn (n rfl) ((X.mono (L.trans V)).mono k) (zk (w rfl) a7.1) (zy a7);intro l ah fl O k m o y hf z;obtain⟨n,w,Y,d3,d4,d5,d6,d7,d8,d9,ab,ac,ad,ae,_⟩:=o
 rcases z with⟨rfl,t,_⟩|⟨rfl,fA,t,c,_⟩|⟨rfl,fA,t,c,_⟩;refine kv t ?_;refine Eff.mono (ko (i:=F.toNat) (j:=0) yg ((X.mono (L.trans V)).mono k) rfl rfl (n rfl) (zy a7) (w rfl) (q9.2 rfl)) ?_;rintro v R' O' hle' ⟨rfl,f,rfl,ho⟩;exact⟨trivial,.inr (.inl ⟨rfl,f,(List.Perm.refl _),ho,trivial⟩)⟩;cases hf
 cases hf;intro l an fl O k m o y z;obtain⟨n,w,Y,d3,d4,d5,d6,d7,d8,d9,ab,ac,ad,ae,ay,az,_⟩:=o;exact qf (i:=G.toNat) yn (n rfl) ((X.mono (L.trans V)).mono k) (zk (w rfl) a8.1) (zy a8);intro l aQ fl O k m o y hf z;obtain⟨n,w,Y,d3,d4,d5,d6,d7,d8,d9,ab,ac,ad,ae,ay,az,bv,_⟩:=o
 rcases z with⟨rfl,t,_⟩|⟨rfl,fA,t,c,_⟩|⟨rfl,fA,t,c,_⟩;exact jv y (by kernel_rfl);refine kv t ?_;refine Eff.mono (ko (i:=G.toNat) (j:=0) yg c rfl rfl (z07 (n rfl)) (by rw [up,List.length_set];exact zy a8) (w rfl) (q9.2 rfl)) ?_;rintro v R' O' hle' ⟨rfl,f,rfl,ho⟩
 exact⟨trivial,.inr (.inr ⟨rfl,f,(List.Perm.refl _),ho,trivial⟩)⟩;cases hf;intro ew ex ey ez eA eB eC eD eE eF eG eH eI eJ ch ci cj ck cl cm eK cn co cp eL cq eM eN;rintro dv (⟨e,_⟩|⟨e,_⟩|⟨_,bA,t,a9,_⟩);cases e;cases e;refine⟨[],_,t,?_⟩
 replace a9:ORep (zm .u64) cg bA d (up (up (up (up data a (ix data pivot)) pivot (ix data a)) F (ix (up (up data a (ix data pivot)) pivot (ix data a)) G)) G (ix (up (up data a (ix data pivot)) pivot (ix data a)) F)):=a9;obtain rfl:=Eq.symm ch;obtain rfl:=Eq.symm ci;obtain rfl:=Eq.symm cj;obtain rfl:=Eq.symm ck;obtain rfl:=Eq.symm cl
 obtain rfl:=Eq.symm cm;obtain rfl:=Eq.symm cn;obtain rfl:=Eq.symm co;obtain rfl:=Eq.symm cp;obtain rfl:=Eq.symm cq;refine qw (zh (vi F) ?_);obtain⟨cr,Q⟩:=zg Q;refine zz (qm rfl rfl cr) (zl (vi (F+1)) (qw (zh (vi G) ?_)));obtain⟨cs,Q⟩:=zg Q
 refine zz (kz rfl rfl cs) (zl (vi (G-1)) (ze ?_));obtain⟨x,s,Q⟩:=zt Q;refine ql (γ:=(Int×List Int)×Frag) (rs [10,12,99,153]) (fun g=>[(11,(vi g.1.1))]) (fun g=>[g.2]++A) (fun g R=>x=g.1∧ORep (zm .u64) R g.2 d g.1.2∧True) ?_ ?_
 refine qa (j4 (γ:=Nat×Int×Int×(List Int)×Frag) (rs [10,12,99,153]) (fun g=>[(10,(vi g.2.1)),(11,(vi g.2.2.1))]) (fun g=>[g.2.2.2.2]++A) (fun g R=>xz N a g.1 g.2.1 g.2.2.1 g.2.2.2.1=some x∧ORep (zm .u64) R g.2.2.2.2 d g.2.2.2.1∧True) (fun g=>g.1) (N,F+1,G-1,(up (up (up (up data a (ix data pivot)) pivot (ix data a)) F (ix (up (up data a (ix data pivot)) pivot (ix data a)) G)) G (ix (up (up data a (ix data pivot)) pivot (ix data a)) F)),bA) prm ⟨s,a9,trivial⟩ ?_)
 clear s;rintro⟨aR,bB,T,p,ao⟩ eO eP bL ⟨s,W,_⟩;rcases aR with _|aR;exact qj s;replace s:xz N a (aR+1) bB T p=some x:=s;rw [xz] at s;refine qa ?_;obtain⟨q,I,s⟩:=zt s
 refine ql (γ:=Int) (rs [10,11,99,115]) (fun g=>[(10,(vi g))]) (fun g=>[ao]++A) (fun g R=>q=g∧True) ?_ ?_;refine qa (j4 (γ:=Nat×Int) (rs [10,11,99,115]) (fun g=>[(10,(vi g.2))]) (fun g=>[ao]++A) (fun g R=>gq N a T p g.1 g.2=some q∧True) (fun g=>g.1) (N,bB) prm ⟨I,trivial⟩ ?_)
 clear I;rintro⟨aS,E⟩ eQ eR ak ⟨I,_⟩;rcases aS with _|aS;exact qj I;replace I:gq N a T p (aS+1) E=some q:=I;rw [gq] at I;refine zw (zw ?_);obtain⟨ba,bb,I⟩:=zi0 I;obtain⟨bc,ct,I⟩:=zt I
 let G2:=(true&&((decide (E≤T))==true))
 refine bu 14 [] [phX (vi E),phX (vi T),phX (.bool (decide (E≤T))),phX (.bool (decide (E≤T))),phG G2 (phX d),phG G2 (phX (vi E)),phG G2 ((fun u _=>wu (zm .u64) d p u E.toNat)),phG G2 (phX (.int .u64 (ix p E))),phG G2 (phX d),phG G2 (phX (vi a)),phG G2 ((fun u _=>wu (zm .u64) d p u a.toNat)),phG G2 (phX (.int .u64 (ix p a))),phG G2 (phX (.bool (bc.getD default))),phX (.bool ((decide (E≤T))&&(bc.getD default)))] mixed (by kernel_rfl) (xu ⟨za,za,za,za,(qh za),(qh za),(qh (fun _ _ _ _ h=>h)),(qh za),(qh za),(qh za),(qh (fun _ _ _ _ h=>h)),(qh za),(qh za),za,trivial⟩) ⟨?_,?_,?_,?_,?_,?_,?_,?_,?_,?_,?_,?_,?_,?_,trivial⟩ fun eS bf=>?_
 intro l aA k m o;exact zi rfl rfl rfl (zf (zb (m 10 rfl)));intro l aB k m o;exact zi rfl rfl rfl (zf (zb (m 11 rfl)));rintro l aC k m ⟨n,w,_⟩;exact zi rfl rfl rfl (zf (z3m (n rfl) (w rfl)));rintro l aD k m ⟨n,_⟩;exact zi rfl rfl rfl (zf (zb (n rfl)));rintro l aE k m ⟨n,_⟩
 exact zx (Gj:=true) (Bj:=decide (E≤T)) rfl rfl rfl (jl (n rfl)) rfl (fun K B=>zf (zb (m 0 rfl)));rintro l aF k m ⟨n,_⟩;exact zx (Gj:=true) (Bj:=decide (E≤T)) rfl rfl rfl (jl (n rfl)) rfl (fun K B=>zf (zb (m 10 rfl)));rintro l aG k m ⟨n,w,Y,_⟩
 exact zx (Gj:=true) (Bj:=decide (E≤T)) rfl rfl rfl (jl (Y rfl)) rfl (fun K B=>qf (i:=E.toNat) yn (show l 103=d from(n rfl).1 (zo rfl B)) ((W.mono ak).mono k) (zk (show l 104=(vi E) from(w rfl).1 (zo rfl B)) (ba (zo K B)).1) (zy (ba (zo K B))));rintro l aH k m ⟨n,w,_⟩
 exact zx (Gj:=true) (Bj:=decide (E≤T)) rfl rfl rfl (jl (w rfl)) rfl (fun K B=>j3 (jh (i:=E.toNat) (j:=0) yg ((W.mono ak).mono k) rfl rfl ((n rfl).1 (zo rfl B)) (zy (ba (zo K B)))) (fun _ _ h=>q9.1 h));rintro l aI k m ⟨n,_⟩
 exact zx (Gj:=true) (Bj:=decide (E≤T)) rfl rfl rfl (jl (n rfl)) rfl (fun K B=>zf (zb (m 0 rfl)));rintro l aJ k m ⟨n,_⟩;exact zx (Gj:=true) (Bj:=decide (E≤T)) rfl rfl rfl (jl (n rfl)) rfl (fun K B=>zf (zb (m 1 rfl)));rintro l af k m ⟨n,w,Y,_⟩
 exact zx (Gj:=true) (Bj:=decide (E≤T)) rfl rfl rfl (jl (Y rfl)) rfl (fun K B=>qf (i:=a.toNat) yn (show l 107=d from(n rfl).1 (zo rfl B)) ((W.mono ak).mono k) (zk (show l 108=(vi a) from(w rfl).1 (zo rfl B)) (bb (zo K B)).1) (zy (bb (zo K B))));rintro l ag k m ⟨n,w,_⟩
 exact zx (Gj:=true) (Bj:=decide (E≤T)) rfl rfl rfl (jl (w rfl)) rfl (fun K B=>j3 (jh (i:=a.toNat) (j:=0) yg ((W.mono ak).mono k) rfl rfl ((n rfl).1 (zo rfl B)) (zy (bb (zo K B)))) (fun _ _ h=>q9.1 h));rintro l U k m ⟨n,w,Y,d3,_⟩;have bM:phG G2 (phX (.int .u64 (ix p E))) (l 106) U:=n rfl
 have bN:phG G2 (phX (.int .u64 (ix p a))) (l 110) U:=w rfl
 exact zx (Gj:=true) (Bj:=decide (E≤T)) rfl rfl rfl (jl (Y rfl)) rfl (fun K B=>kw (vs:=[(.int .u64 (ix p E)),(.int .u64 (ix p a))]) z9f (by simp only [List.map,ev,(show l 106=(.int .u64 (ix p E)) from bM.1 (zo rfl B)),(show l 110=(.int .u64 (ix p a)) from bN.1 (zo rfl B))]<;>rfl) ((by have aO:=(dw ct (zo K B));exact yw  aO)) (fun _ _ h=>h))
 rintro l ah k m ⟨n,w,_⟩;exact zi rfl rfl rfl (zf (xg (n rfl) (fun hb=>(show l 111=(.bool (bc.getD default)) from(w rfl).1 (zo rfl hb))) rfl));intro eT cu eU cv eV cw eW cx eX eY eZ e0 e1 e2 e3 e4 e5 e6 e7 e8 e9 fa fb fc fd fe ff cy;obtain rfl:=Eq.symm cu;obtain rfl:=Eq.symm cv
 obtain rfl:=Eq.symm cw;obtain rfl:=Eq.symm cx;obtain rfl:=Eq.symm cy;refine ze (q8 rfl I (fun I=>?_) (fun I=>?_));refine qb (qa (zu (zh (vi E) ?_)));obtain⟨cz,I⟩:=zg I;refine zz (qm rfl rfl cz) (zl (vi (E+1)) (ze ?_))
 exact⟨dkt,bf,jg,(aS,E+1),Nat.lt_succ_self _,⟨rfl,trivial⟩,prm,I,trivial⟩;refine jb ?_;exact⟨dkt,(ak.trans bf),jg,E,⟨rfl,trivial⟩,prm,(Option.some.inj I).symm,trivial⟩;rintro q fg fh P ⟨rfl,_⟩;obtain⟨H,I,s⟩:=zt s
 refine ql (γ:=Int) (rs [11,12,115,132]) (fun g=>[(11,(vi g))]) (fun g=>[ao]++A) (fun g R=>H=g∧True) ?_ ?_;refine qa (j4 (γ:=Nat×Int) (rs [11,12,115,132]) (fun g=>[(11,(vi g.2))]) (fun g=>[ao]++A) (fun g R=>gp N a p q g.1 g.2=some H∧True) (fun g=>g.1) (N,T) prm ⟨I,trivial⟩ ?_)
 clear I;rintro⟨aT,C⟩ fi fj al ⟨I,_⟩;rcases aT with _|aT;exact qj I;replace I:gp N a p q (aT+1) C=some H:=I;rw [gp] at I;refine zw (zw ?_);obtain⟨bg,bh,I⟩:=zi0 I;obtain⟨aM,cA,I⟩:=zt I
 let G3:=(true&&((decide (q≤C))==true))
 refine bu 15 [] [phX (vi q),phX (vi C),phX (.bool (decide (q≤C))),phX (.bool (decide (q≤C))),phG G3 (phX d),phG G3 (phX (vi C)),phG G3 ((fun u _=>wu (zm .u64) d p u C.toNat)),phG G3 (phX (.int .u64 (ix p C))),phG G3 (phX d),phG G3 (phX (vi a)),phG G3 ((fun u _=>wu (zm .u64) d p u a.toNat)),phG G3 (phX (.int .u64 (ix p a))),phG G3 (phX (.bool (aM.getD default))),phG G3 (phX (.bool (!(aM.getD default)))),phX (.bool ((decide (q≤C))&&(!(aM.getD default))))] mixed (by kernel_rfl) (xu ⟨za,za,za,za,(qh za),(qh za),(qh (fun _ _ _ _ h=>h)),(qh za),(qh za),(qh za),(qh (fun _ _ _ _ h=>h)),(qh za),(qh za),(qh za),za,trivial⟩) ⟨?_,?_,?_,?_,?_,?_,?_,?_,?_,?_,?_,?_,?_,?_,?_,trivial⟩ fun fk bi=>?_
 intro l aA k m o;exact zi rfl rfl rfl (zf (zb (m 10 rfl)));intro l aB k m o;exact zi rfl rfl rfl (zf (zb (m 11 rfl)));rintro l aC k m ⟨n,w,_⟩;exact zi rfl rfl rfl (zf (z3m (n rfl) (w rfl)));rintro l aD k m ⟨n,_⟩;exact zi rfl rfl rfl (zf (zb (n rfl)));rintro l aE k m ⟨n,_⟩
 exact zx (Gj:=true) (Bj:=decide (q≤C)) rfl rfl rfl (jl (n rfl)) rfl (fun K B=>zf (zb (m 0 rfl)));rintro l aF k m ⟨n,_⟩;exact zx (Gj:=true) (Bj:=decide (q≤C)) rfl rfl rfl (jl (n rfl)) rfl (fun K B=>zf (zb (m 11 rfl)));rintro l aG k m ⟨n,w,Y,_⟩
 exact zx (Gj:=true) (Bj:=decide (q≤C)) rfl rfl rfl (jl (Y rfl)) rfl (fun K B=>qf (i:=C.toNat) yn (show l 119=d from(n rfl).1 (zo rfl B)) ((W.mono (P.trans al)).mono k) (zk (show l 120=(vi C) from(w rfl).1 (zo rfl B)) (bg (zo K B)).1) (zy (bg (zo K B))));rintro l aH k m ⟨n,w,_⟩
 exact zx (Gj:=true) (Bj:=decide (q≤C)) rfl rfl rfl (jl (w rfl)) rfl (fun K B=>j3 (jh (i:=C.toNat) (j:=0) yg ((W.mono (P.trans al)).mono k) rfl rfl ((n rfl).1 (zo rfl B)) (zy (bg (zo K B)))) (fun _ _ h=>q9.1 h));rintro l aI k m ⟨n,_⟩
 exact zx (Gj:=true) (Bj:=decide (q≤C)) rfl rfl rfl (jl (n rfl)) rfl (fun K B=>zf (zb (m 0 rfl)));rintro l aJ k m ⟨n,_⟩;exact zx (Gj:=true) (Bj:=decide (q≤C)) rfl rfl rfl (jl (n rfl)) rfl (fun K B=>zf (zb (m 1 rfl)));rintro l af k m ⟨n,w,Y,_⟩
 exact zx (Gj:=true) (Bj:=decide (q≤C)) rfl rfl rfl (jl (Y rfl)) rfl (fun K B=>qf (i:=a.toNat) yn (show l 123=d from(n rfl).1 (zo rfl B)) ((W.mono (P.trans al)).mono k) (zk (show l 124=(vi a) from(w rfl).1 (zo rfl B)) (bh (zo K B)).1) (zy (bh (zo K B))));rintro l ag k m ⟨n,w,_⟩
 exact zx (Gj:=true) (Bj:=decide (q≤C)) rfl rfl rfl (jl (w rfl)) rfl (fun K B=>j3 (jh (i:=a.toNat) (j:=0) yg ((W.mono (P.trans al)).mono k) rfl rfl ((n rfl).1 (zo rfl B)) (zy (bh (zo K B)))) (fun _ _ h=>q9.1 h));rintro l U k m ⟨n,w,Y,d3,_⟩
 have bO:phG G3 (phX (.int .u64 (ix p C))) (l 122) U:=n rfl;have bP:phG G3 (phX (.int .u64 (ix p a))) (l 126) U:=w rfl
 exact zx (Gj:=true) (Bj:=decide (q≤C)) rfl rfl rfl (jl (Y rfl)) rfl (fun K B=>kw (vs:=[(.int .u64 (ix p C)),(.int .u64 (ix p a))]) z9f (by simp only [List.map,ev,(show l 122=(.int .u64 (ix p C)) from bO.1 (zo rfl B)),(show l 126=(.int .u64 (ix p a)) from bP.1 (zo rfl B))]<;>rfl) ((by have aO:=(dw cA (zo K B));exact yw  aO)) (fun _ _ h=>h))
 rintro l ah k m ⟨n,w,_⟩;exact zx (Gj:=true) (Bj:=decide (q≤C)) rfl rfl rfl (jl (w rfl)) rfl (fun K B=>zf (ow (show l 127=(.bool (aM.getD default)) from(n rfl).1 (zo rfl B))));rintro l an k m ⟨n,w,_⟩
 exact zi rfl rfl rfl (zf (xg (n rfl) (fun hb=>(show l 128=(.bool (!(aM.getD default))) from(w rfl).1 (zo rfl hb))) rfl));intro fm cB fn cC fo cD fp cE fq fr fs ft fu fv fw fx fy fz fB fD fE fF fG fH fI fJ fK fL fM cF;obtain rfl:=Eq.symm cB;obtain rfl:=Eq.symm cC;obtain rfl:=Eq.symm cD
 obtain rfl:=Eq.symm cE;obtain rfl:=Eq.symm cF;refine ze (q8 rfl I (fun I=>?_) (fun I=>?_));refine qb (qa (zu (zh (vi C) ?_)));obtain⟨cG,I⟩:=zg I;refine zz (kz rfl rfl cG) (zl (vi (C-1)) (ze ?_));exact⟨dkt,bi,jg,(aT,C-1),Nat.lt_succ_self _,⟨rfl,trivial⟩,prm,I,trivial⟩
 refine jb ?_;exact⟨dkt,(al.trans bi),jg,C,⟨rfl,trivial⟩,prm,(Option.some.inj I).symm,trivial⟩;rintro H fN fO Z ⟨rfl,_⟩;refine zw (zq (zh (vi q) (zh (vi H) (zz (oz rfl rfl) (ze (q8 rfl s (fun s=>?_) (fun s=>?_)))))));refine jb ?_
 exact⟨dkt,((bL.trans P).trans Z),jg,((H,p),ao),⟨rfl,trivial⟩,prm,(Option.some.inj s).symm,(W.mono (P.trans Z)),trivial⟩;refine qb (zw ?_);obtain⟨bj,bk,bl,bm,s⟩:=zi1 s
 refine ni [13,15] [(fun es=>phX d),(fun es=>phX (vi q)),(fun es=>phX d),(fun es=>phX (vi H)),(fun es=>phX d),(fun es=>phX (vi H)),(fun es=>(fun u _=>wu (zm .u64) d p u H.toNat)),(fun es=>phX (.int .u64 (ix p H))),(fun es=>phX d),(fun es=>phX (vi q)),(fun es=>(fun u _=>wu (zm .u64) d p u q.toNat)),(fun es=>phX (.int .u64 (ix p q))),(fun es=>(fun u _=>wu (zm .u64) d p u q.toNat)),(fun es=>(fun _ _=>True)),(fun es=>(fun u _=>wu (zm .u64) d p u H.toNat)),(fun es=>(fun _ _=>True))] (fun fl es R O=>(fl=[false,false]∧O.Perm ([ao]++A)∧True)∨(fl=[true,false]∧ ∃ (fA:Frag),O.Perm ([fA]++A)∧ORep (zm .u64) R fA d (up p q (ix p H))∧True)∨(fl=[true,true]∧ ∃ (fA:Frag),O.Perm ([fA]++A)∧ORep (zm .u64) R fA d (up (up p q (ix p H)) H (ix p q))∧True)) mixed (by kernel_rfl) ⟨(z8 za),(z8 za),(z8 za),(z8 za),(z8 za),(z8 za),(z8 (fun _ _ _ _ h=>h)),(z8 za),(z8 za),(z8 za),(z8 (fun _ _ _ _ h=>h)),(z8 za),(z8 (fun _ _ _ _ h=>h)),(fun _ _ _ _ _ h=>h),(z8 (fun _ _ _ _ h=>h)),(fun _ _ _ _ _ h=>h),trivial⟩ (by rintro fl es R R' O k (⟨rfl,t,_⟩|⟨rfl,fA,t,c,_⟩|⟨rfl,fA,t,c,_⟩);exact(.inl ⟨rfl,t,trivial⟩);exact(.inr (.inl ⟨rfl,fA,t,(c.mono k),trivial⟩));exact(.inr (.inr ⟨rfl,fA,t,(c.mono k),trivial⟩))) ⟨(fun _ _ _ _ _ h=>h),(fun _ _ _ _ _ h=>h),(fun _ _ _ _ _ h=>h),(fun _ _ _ _ _ h=>h),(fun _ _ _ _ _ h=>h),(fun _ _ _ _ _ h=>h),(fun _ _ _ _ _ h=>h),(fun _ _ _ _ _ h=>h),(fun _ _ _ _ _ h=>h),(fun _ _ _ _ _ h=>h),(fun _ _ _ _ _ h=>h),(fun _ _ _ _ _ h=>h),(fun _ _ _ _ _ h=>h),(fun _ _ _ _ _ h=>h),(fun _ _ _ _ _ h=>h),(fun _ _ _ _ _ h=>h),trivial⟩ (fun es=> .inl ⟨rfl,(List.Perm.refl _),trivial⟩) ⟨?_,?_,?_,?_,?_,?_,?_,?_,?_,?_,?_,?_,?_,?_,?_,?_,trivial⟩ fun cH bQ=>?_
 intro l aA fl O k m o y z;exact zf (zb (m 0 rfl));intro l aB fl O k m o y z;exact zf (zb (m 10 rfl));intro l aC fl O k m o y z;obtain⟨n,_⟩:=o;exact zf (zb (m 0 rfl));intro l aD fl O k m o y z;obtain⟨n,_⟩:=o;exact zf (zb (m 11 rfl));intro l aE fl O k m o y z;exact zf (zb (m 0 rfl))
 intro l aF fl O k m o y z;exact zf (zb (m 11 rfl));intro l aG fl O k m o y z;obtain⟨n,w,_⟩:=o;exact qf (i:=H.toNat) yn (n rfl) ((W.mono (P.trans Z)).mono k) (zk (w rfl) bj.1) (zy bj);intro l aH fl O k m o y z;obtain⟨n,_⟩:=o
 rcases z with⟨rfl,t,_⟩|⟨rfl,fA,t,c,_⟩|⟨rfl,fA,t,c,_⟩;exact jk t (j3 (jh (i:=H.toNat) (j:=0) yg ((W.mono (P.trans Z)).mono k) rfl rfl (n rfl) (zy bj)) (fun _ _ h=>q9.1 h));exact jv y (by kernel_rfl);exact jv y (by kernel_rfl);intro l aI fl O k m o y z
 exact zf (zb (m 0 rfl));intro l aJ fl O k m o y z;exact zf (zb (m 10 rfl));intro l af fl O k m o y z;obtain⟨n,w,_⟩:=o;exact qf (i:=q.toNat) yn (n rfl) ((W.mono (P.trans Z)).mono k) (zk (w rfl) bk.1) (zy bk);intro l ag fl O k m o y z;obtain⟨n,_⟩:=o
 rcases z with⟨rfl,t,_⟩|⟨rfl,fA,t,c,_⟩|⟨rfl,fA,t,c,_⟩;exact jk t (j3 (jh (i:=q.toNat) (j:=0) yg ((W.mono (P.trans Z)).mono k) rfl rfl (n rfl) (zy bk)) (fun _ _ h=>q9.1 h));exact jv y (by kernel_rfl);exact jv y (by kernel_rfl);intro l U fl O k m o y z
 obtain⟨n,w,Y,d3,d4,d5,d6,d7,d8,d9,ab,ac,ad,ae,_⟩:=o;exact qf (i:=q.toNat) yn (n rfl) ((W.mono (P.trans Z)).mono k) (zk (w rfl) bl.1) (zy bl);intro l ah fl O k m o y hf z;obtain⟨n,w,Y,d3,d4,d5,d6,d7,d8,d9,ab,ac,ad,ae,_⟩:=o
 rcases z with⟨rfl,t,_⟩|⟨rfl,fA,t,c,_⟩|⟨rfl,fA,t,c,_⟩;refine kv t ?_;refine Eff.mono (ko (i:=q.toNat) (j:=0) yg ((W.mono (P.trans Z)).mono k) rfl rfl (n rfl) (zy bl) (w rfl) (q9.2 rfl)) ?_;rintro v R' O' hle' ⟨rfl,f,rfl,ho⟩;exact⟨trivial,.inr (.inl ⟨rfl,f,(List.Perm.refl _),ho,trivial⟩)⟩
 cases hf;cases hf;intro l an fl O k m o y z;obtain⟨n,w,Y,d3,d4,d5,d6,d7,d8,d9,ab,ac,ad,ae,ay,az,_⟩:=o;exact qf (i:=H.toNat) yn (n rfl) ((W.mono (P.trans Z)).mono k) (zk (w rfl) bm.1) (zy bm);intro l aQ fl O k m o y hf z;obtain⟨n,w,Y,d3,d4,d5,d6,d7,d8,d9,ab,ac,ad,ae,ay,az,bv,_⟩:=o
 rcases z with⟨rfl,t,_⟩|⟨rfl,fA,t,c,_⟩|⟨rfl,fA,t,c,_⟩;exact jv y (by kernel_rfl);refine kv t ?_;refine Eff.mono (ko (i:=H.toNat) (j:=0) yg c rfl rfl (z07 (n rfl)) (by rw [up,List.length_set];exact zy bm) (w rfl) (q9.2 rfl)) ?_;rintro v R' O' hle' ⟨rfl,f,rfl,ho⟩
 exact⟨trivial,.inr (.inr ⟨rfl,f,(List.Perm.refl _),ho,trivial⟩)⟩;cases hf;intro fP fQ fR fS fT fU fV fW fX fY fZ f0 f1 f2 cI cJ cK cL cM cN f3 cO cP cQ f4 cR f5 f6;rintro dx (⟨e,_⟩|⟨e,_⟩|⟨_,bC,t,bn,_⟩);cases e;cases e;refine⟨[],_,t,?_⟩
 replace bn:ORep (zm .u64) cH bC d (up (up p q (ix p H)) H (ix p q)):=bn;obtain rfl:=Eq.symm cI;obtain rfl:=Eq.symm cJ;obtain rfl:=Eq.symm cK;obtain rfl:=Eq.symm cL;obtain rfl:=Eq.symm cM;obtain rfl:=Eq.symm cN;obtain rfl:=Eq.symm cO;obtain rfl:=Eq.symm cP;obtain rfl:=Eq.symm cQ;obtain rfl:=Eq.symm cR
 refine qw (zh (vi q) ?_);obtain⟨cS,s⟩:=zg s;refine zz (qm rfl rfl cS) (zl (vi (q+1)) (ze (zu (zh (vi H) ?_))));obtain⟨cT,s⟩:=zg s;refine zz (kz rfl rfl cT) (zl (vi (H-1)) (ze ?_))
 exact⟨dkt,((P.trans Z).trans bQ),jg,(aR,q+1,H-1,(up (up p q (ix p H)) H (ix p q)),bC),Nat.lt_succ_self _,⟨rfl,rfl,trivial⟩,prm,s,bn,trivial⟩;rintro⟨x,cU⟩ f7 f8 bR ⟨rfl,am,_⟩;refine zw ?_;obtain⟨bo,bp,bq,br,Q⟩:=zi1 Q
 refine ni [13,15] [(fun es=>phX d),(fun es=>phX (vi x.1)),(fun es=>phX d),(fun es=>phX (vi a)),(fun es=>phX d),(fun es=>phX (vi a)),(fun es=>(fun u _=>wu (zm .u64) d x.2 u a.toNat)),(fun es=>phX (.int .u64 (ix x.2 a))),(fun es=>phX d),(fun es=>phX (vi x.1)),(fun es=>(fun u _=>wu (zm .u64) d x.2 u x.1.toNat)),(fun es=>phX (.int .u64 (ix x.2 x.1))),(fun es=>(fun u _=>wu (zm .u64) d x.2 u x.1.toNat)),(fun es=>(fun _ _=>True)),(fun es=>(fun u _=>wu (zm .u64) d x.2 u a.toNat)),(fun es=>(fun _ _=>True))] (fun fl es R O=>(fl=[false,false]∧O.Perm ([cU]++A)∧True)∨(fl=[true,false]∧ ∃ (fA:Frag),O.Perm ([fA]++A)∧ORep (zm .u64) R fA d (up x.2 x.1 (ix x.2 a))∧True)∨(fl=[true,true]∧ ∃ (fA:Frag),O.Perm ([fA]++A)∧ORep (zm .u64) R fA d (up (up x.2 x.1 (ix x.2 a)) a (ix x.2 x.1))∧True)) mixed (by kernel_rfl) ⟨(z8 za),(z8 za),(z8 za),(z8 za),(z8 za),(z8 za),(z8 (fun _ _ _ _ h=>h)),(z8 za),(z8 za),(z8 za),(z8 (fun _ _ _ _ h=>h)),(z8 za),(z8 (fun _ _ _ _ h=>h)),(fun _ _ _ _ _ h=>h),(z8 (fun _ _ _ _ h=>h)),(fun _ _ _ _ _ h=>h),trivial⟩ (by rintro fl es R R' O k (⟨rfl,t,_⟩|⟨rfl,fA,t,c,_⟩|⟨rfl,fA,t,c,_⟩);exact(.inl ⟨rfl,t,trivial⟩);exact(.inr (.inl ⟨rfl,fA,t,(c.mono k),trivial⟩));exact(.inr (.inr ⟨rfl,fA,t,(c.mono k),trivial⟩))) ⟨(fun _ _ _ _ _ h=>h),(fun _ _ _ _ _ h=>h),(fun _ _ _ _ _ h=>h),(fun _ _ _ _ _ h=>h),(fun _ _ _ _ _ h=>h),(fun _ _ _ _ _ h=>h),(fun _ _ _ _ _ h=>h),(fun _ _ _ _ _ h=>h),(fun _ _ _ _ _ h=>h),(fun _ _ _ _ _ h=>h),(fun _ _ _ _ _ h=>h),(fun _ _ _ _ _ h=>h),(fun _ _ _ _ _ h=>h),(fun _ _ _ _ _ h=>h),(fun _ _ _ _ _ h=>h),(fun _ _ _ _ _ h=>h),trivial⟩ (fun es=> .inl ⟨rfl,(List.Perm.refl _),trivial⟩) ⟨?_,?_,?_,?_,?_,?_,?_,?_,?_,?_,?_,?_,?_,?_,?_,?_,trivial⟩ fun cV bS=>?_
 intro l aA fl O k m o y z;exact zf (zb (m 0 rfl));intro l aB fl O k m o y z;exact zf (zb (m 11 rfl));intro l aC fl O k m o y z;obtain⟨n,_⟩:=o;exact zf (zb (m 0 rfl));intro l aD fl O k m o y z;obtain⟨n,_⟩:=o;exact zf (zb (m 1 rfl));intro l aE fl O k m o y z;exact zf (zb (m 0 rfl))
 intro l aF fl O k m o y z;exact zf (zb (m 1 rfl));intro l aG fl O k m o y z;obtain⟨n,w,_⟩:=o;exact qf (i:=a.toNat) yn (n rfl) (am.mono k) (zk (w rfl) bo.1) (zy bo);intro l aH fl O k m o y z;obtain⟨n,_⟩:=o;rcases z with⟨rfl,t,_⟩|⟨rfl,fA,t,c,_⟩|⟨rfl,fA,t,c,_⟩
 exact jk t (j3 (jh (i:=a.toNat) (j:=0) yg (am.mono k) rfl rfl (n rfl) (zy bo)) (fun _ _ h=>q9.1 h));exact jv y (by kernel_rfl);exact jv y (by kernel_rfl);intro l aI fl O k m o y z;exact zf (zb (m 0 rfl));intro l aJ fl O k m o y z;exact zf (zb (m 11 rfl));intro l af fl O k m o y z
 obtain⟨n,w,_⟩:=o;exact qf (i:=x.1.toNat) yn (n rfl) (am.mono k) (zk (w rfl) bp.1) (zy bp);intro l ag fl O k m o y z;obtain⟨n,_⟩:=o;rcases z with⟨rfl,t,_⟩|⟨rfl,fA,t,c,_⟩|⟨rfl,fA,t,c,_⟩
 exact jk t (j3 (jh (i:=x.1.toNat) (j:=0) yg (am.mono k) rfl rfl (n rfl) (zy bp)) (fun _ _ h=>q9.1 h));exact jv y (by kernel_rfl);exact jv y (by kernel_rfl);intro l U fl O k m o y z;obtain⟨n,w,Y,d3,d4,d5,d6,d7,d8,d9,ab,ac,ad,ae,_⟩:=o
 exact qf (i:=x.1.toNat) yn (n rfl) (am.mono k) (zk (w rfl) bq.1) (zy bq);intro l ah fl O k m o y hf z;obtain⟨n,w,Y,d3,d4,d5,d6,d7,d8,d9,ab,ac,ad,ae,_⟩:=o;rcases z with⟨rfl,t,_⟩|⟨rfl,fA,t,c,_⟩|⟨rfl,fA,t,c,_⟩;refine kv t ?_
 refine Eff.mono (ko (i:=x.1.toNat) (j:=0) yg (am.mono k) rfl rfl (n rfl) (zy bq) (w rfl) (q9.2 rfl)) ?_;rintro v R' O' hle' ⟨rfl,f,rfl,ho⟩;exact⟨trivial,.inr (.inl ⟨rfl,f,(List.Perm.refl _),ho,trivial⟩)⟩;cases hf;cases hf;intro l an fl O k m o y z;obtain⟨n,w,Y,d3,d4,d5,d6,d7,d8,d9,ab,ac,ad,ae,ay,az,_⟩:=o
 exact qf (i:=a.toNat) yn (n rfl) (am.mono k) (zk (w rfl) br.1) (zy br);intro l aQ fl O k m o y hf z;obtain⟨n,w,Y,d3,d4,d5,d6,d7,d8,d9,ab,ac,ad,ae,ay,az,bv,_⟩:=o;rcases z with⟨rfl,t,_⟩|⟨rfl,fA,t,c,_⟩|⟨rfl,fA,t,c,_⟩;exact jv y (by kernel_rfl);refine kv t ?_
 refine Eff.mono (ko (i:=a.toNat) (j:=0) yg c rfl rfl (z07 (n rfl)) (by rw [up,List.length_set];exact zy br) (w rfl) (q9.2 rfl)) ?_;rintro v R' O' hle' ⟨rfl,f,rfl,ho⟩;exact⟨trivial,.inr (.inr ⟨rfl,f,(List.Perm.refl _),ho,trivial⟩)⟩;cases hf
 intro f9 ga gb gc ge gf gg gh gi gj gk gl gn go cW cX cY cZ c0 c1 gr c2 c3 c4 gs c5 gt gu;rintro dy (⟨e,_⟩|⟨e,_⟩|⟨_,bs,t,bt,_⟩);cases e;cases e;refine⟨[],_,t,?_⟩;replace bt:ORep (zm .u64) cV bs d (up (up x.2 x.1 (ix x.2 a)) a (ix x.2 x.1)):=bt;obtain rfl:=Eq.symm cW
 obtain rfl:=Eq.symm cX;obtain rfl:=Eq.symm cY;obtain rfl:=Eq.symm cZ;obtain rfl:=Eq.symm c0;obtain rfl:=Eq.symm c1;obtain rfl:=Eq.symm c2;obtain rfl:=Eq.symm c3;obtain rfl:=Eq.symm c4;obtain rfl:=Eq.symm c5;refine qw (zh (vi x.1) (zl (vi x.1) (zl (.bool false) (ze (qd ?_)))));obtain rfl:=Option.some.inj Q
 refine uq (D:=[]) (J:=[]) (O':=[bs]) (rs:=[.tmp 8,.tmp 9]) (vs:=[(vi x.1),(.bool false)]) (((((bT.trans L).trans V).trans bK).trans bR).trans bS) ((pk 0 rfl (List.Perm.refl _))) rfl ⟨rfl,rfl,trivial⟩ ?_;exact⟨bs,rfl,rfl,bt⟩
theorem zma:Enters prog 96:=enters_of func96 rfl (by kernel_rfl)
theorem zjw:Enters prog 75:=enters_of func75 rfl (by kernel_rfl)
theorem z2n{N:Nat}(F:Nat): ∀ {R:RH} {data:List Int} {c:Value} {fC:Frag} (G:ORep (zm .u64) R fC c data) {a:Int} {b:Int} {limit:Int} {r:List Int} (d:xe N F data a b limit=some r),CallG prog 75 #[c,(vi a),(vi b),(vi limit)] R [fC] (fun v R' O'=> ∃ H,v= .tuple #[]∧O'=[H]∧ORep (zm .u64) R' H c r):=by
  induction F with
  |zero=>intros;rename_i d;exact qj d
  |succ F ih=>
    intro R data c fC G a b limit r d
    refine yo (args:=[c,(vi a),(vi b),(vi limit)]) func75 rfl rfl fun A=>?_
    rw [xe] at d
    refine zw ?_
    refine zu ?_
    refine zl (.bool true) ?_
    refine ze ?_
    refine zw ?_
    refine zu ?_
    refine zl (.bool true) ?_
    refine ze ?_
    refine qa ?_
    refine j4 (γ:=Nat×Int×Int×Int×Bool×Bool×(List Int)×Frag) (rs [1,4,8,134]) (fun g=>[(1,(vi g.2.1)),(2,(vi g.2.2.1)),(3,(vi g.2.2.2.1)),(8,(.bool g.2.2.2.2.1)),(9,(.bool g.2.2.2.2.2.1))]) (fun g=>[g.2.2.2.2.2.2.2]++A) (fun g R=>wy N (xe N F) g.1 g.2.1 g.2.2.1 g.2.2.2.1 g.2.2.2.2.1 g.2.2.2.2.2.1 g.2.2.2.2.2.2.1=some r∧ORep (zm .u64) R g.2.2.2.2.2.2.2 c g.2.2.2.2.2.2.1∧True) (fun g=>g.1) (N,a,b,limit,true,true,data,fC) prm ⟨d,G,trivial⟩ ?_
    clear d
    rintro⟨F1,f,m,x4,x5,x6,x7,U⟩ bY R8 aa ⟨d,V,_⟩
    rcases F1 with _|F1
    · exact qj d
    replace d:wy N (xe N F) (F1+1) f m x4 x5 x6 x7=some r:=d;rw [wy] at d
    refine qa ?_
    refine zw ?_
    refine zu ?_
    refine zh (vi m) ?_
    refine zh (vi f) ?_
    obtain⟨bh,d⟩:=zg d
    refine zz (kz rfl rfl bh) ?_
    refine zl (vi (m-f)) ?_
    refine ze ?_
    refine zw ?_
    refine zw ?_
    refine zu ?_
    refine zh (vi (m-f)) ?_
    refine zz (z3m rfl rfl) ?_
    refine ze ?_
    refine q8 rfl d (fun d=>?_) (fun d=>?_)
    · refine zw ?_
      refine zu ?_
      refine zh c ?_
      refine zh (vi f) ?_
      refine zh (vi m) ?_
      obtain⟨cK,bi,d⟩:=zt d
      refine xx (Oc:=[U]) (Or:=[]++A) (cs:=[]) (vs:=[c,(vi f),(vi m)]) rfl zln rfl rfl ((pk 0 rfl (List.Perm.refl _))) (z1z V bi) fun cL cM bZ ai bj=>?_
      obtain⟨aj,rfl,rfl,bk⟩:=bj
      refine ze ?_
      refine qd ?_
      obtain rfl:=Option.some.inj d
      refine uq (D:=[]) (J:=[]) (O':=[aj]) (rs:=[]) (vs:=[]) (aa.trans ai) ((pk 0 rfl (List.Perm.refl _))) rfl trivial ?_
      exact⟨aj,rfl,rfl,bk⟩
    · refine qb ?_
      refine zw ?_
      refine zw ?_
      refine zu ?_
      refine zh (vi x4) ?_
      refine zz (pu rfl rfl) ?_
      refine ze ?_
      refine q8 rfl d (fun d=>?_) (fun d=>?_)
      · refine zw ?_
        refine zu ?_
        refine zh c ?_
        refine zh (vi f) ?_
        refine zh (vi m) ?_
        obtain⟨cN,bl,d⟩:=zt d
        refine xx (Oc:=[U]) (Or:=[]++A) (cs:=[]) (vs:=[c,(vi f),(vi m)]) rfl zm1 rfl rfl ((pk 0 rfl (List.Perm.refl _))) (z3n V bl) fun cO cP b0 ak bm=>?_
        obtain⟨al,rfl,rfl,bn⟩:=bm
        refine ze ?_
        refine qd ?_
        obtain rfl:=Option.some.inj d
        refine uq (D:=[]) (J:=[]) (O':=[al]) (rs:=[]) (vs:=[]) (aa.trans ak) ((pk 0 rfl (List.Perm.refl _))) rfl trivial ?_
        exact⟨al,rfl,rfl,bn⟩
      · refine qb ?_
        obtain⟨t,k,d⟩:=zt d
        refine ql (γ:=(Int×List Int)×Frag) (rs [3,4,34,42]) (fun g=>[(3,(vi g.1.1))]) (fun g=>[g.2]++A) (fun g R=>t=g.1∧ORep (zm .u64) R g.2 c g.1.2∧True) ?_ ?_
        · refine zw ?_
          refine zu ?_
          refine zh (.bool x5) ?_
          refine zz (ow rfl) ?_
          refine ze ?_
          refine q8 rfl k (fun k=>?_) (fun k=>?_)
          · refine zw ?_
            refine zu ?_
            refine zh c ?_
            refine zh (vi f) ?_
            refine zh (vi m) ?_
            obtain⟨bo,bp,k⟩:=zt k
            refine xx (Oc:=[U]) (Or:=[]++A) (cs:=[]) (vs:=[c,(vi f),(vi m)]) rfl zmk rfl rfl ((pk 0 rfl (List.Perm.refl _))) (z2c V bp) fun cQ cR b1 am bq=>?_
            obtain⟨br,rfl,rfl,bs⟩:=bq
            refine ze ?_
            refine zu ?_
            refine zh (vi x4) ?_
            obtain⟨bt,k⟩:=zg k
            refine zz (kz rfl rfl bt) ?_
            refine zl (vi (x4-1)) ?_
            refine ze ?_
            exact⟨dkt,am,jg,((x4-1,bo),br),⟨rfl,trivial⟩,prm,(Option.some.inj k).symm,bs,trivial⟩
          · refine qb ?_
            exact⟨dkt,(RH.le.refl _),jg,((x4,x7),U),⟨rfl,trivial⟩,prm,(Option.some.inj k).symm,V,trivial⟩
        · rintro⟨t,an⟩ cS cT I ⟨rfl,ab,_⟩
          refine zw ?_
          refine zu ?_
          refine zh c ?_
          refine zh (vi f) ?_
          refine zh (vi m) ?_
          obtain⟨s,bv,d⟩:=zt d
          refine z4g (cs:=[]) (vs:=[c,(vi f),(vi m)]) (φ:=fun v=>v= .tuple #[(vi s.1),(vi s.2)]) rfl zlm rfl rfl (fun bw ao ap=>z2x (z6j ((z7j 0 rfl ab ao ap):VRep (yx (zm .u64)) bw c t.2)) bv) fun cU bx=>?_
          obtain rfl:=bx
          refine zh (.tuple #[(vi s.1),(vi s.2)]) ?_
          refine zz (qg rfl rfl) ?_
          refine zz (qg rfl rfl) ?_
          refine zl (vi s.1) ?_
          refine zl (vi s.2) ?_
          refine ze ?_
          obtain⟨n,k,d⟩:=zt d
          refine ql (γ:=(Int×Int×List Int)×Frag) (rs [11,13,49,61]) (fun g=>[(11,(vi g.1.1)),(12,(vi g.1.2.1))]) (fun g=>[g.2]++A) (fun g R=>n=g.1∧ORep (zm .u64) R g.2 c g.1.2.2∧True) ?_ ?_
          · refine zw ?_
            refine zu ?_
            refine zh (vi s.2) ?_
            refine zz (pu rfl rfl) ?_
            refine ze ?_
            refine q8 rfl k (fun k=>?_) (fun k=>?_)
            · refine zw ?_
              refine zu ?_
              refine zh c ?_
              refine zh (vi f) ?_
              refine zh (vi m) ?_
              obtain⟨bz,bA,k⟩:=zt k
              refine xx (Oc:=[an]) (Or:=[]++A) (cs:=[]) (vs:=[c,(vi f),(vi m)]) rfl zme rfl rfl ((pk 0 rfl (List.Perm.refl _))) (z2m ab bA) fun cV cW b2 aq bB=>?_
              obtain⟨bC,rfl,rfl,bD⟩:=bB
              refine ze ?_
              refine zw ?_
              refine zu ?_
              refine zh (vi m) ?_
              obtain⟨bE,k⟩:=zg k
              refine zz (kz rfl rfl bE) ?_
              refine zh (vi s.1) ?_
              refine zh (vi f) ?_
              obtain⟨bF,k⟩:=zg k
              refine zz (kz rfl rfl bF) ?_
              obtain⟨bG,k⟩:=zg k
              refine zz (kz rfl rfl bG) ?_
              refine zl (vi ((m-1)-(s.1-f))) ?_
              refine ze ?_
              refine zu ?_
              refine zl (vi 1) ?_
              refine ze ?_
              exact⟨dkt,aq,jg,(((m-1)-(s.1-f),1,bz),bC),⟨rfl,rfl,trivial⟩,prm,(Option.some.inj k).symm,bD,trivial⟩
            · refine qb ?_
              exact⟨dkt,(RH.le.refl _),jg,((s.1,s.2,t.2),an),⟨rfl,rfl,trivial⟩,prm,(Option.some.inj k).symm,ab,trivial⟩
          · rintro⟨n,ar⟩ cX cY K ⟨rfl,au,_⟩
            obtain⟨bH,k,d⟩:=zt d
            refine ql (γ:=(List Int)×Frag) (rs [61,73]) (fun g=>[]) (fun g=>[g.2]++A) (fun g R=>bH=Ex.go g.1∧ORep (zm .u64) R g.2 c g.1∧True) ?_ ?_
            · refine zw ?_
              refine zu ?_
              refine jo (v:=(.bool x5)) rfl (zb rfl) ?_
              refine jo (v:=(.bool x5)) rfl (zb rfl) ?_
              refine ja rfl rfl rfl rfl (fun p=>qp (v:=(.bool x6)) (zb rfl)) fun cZ bI=>?_
              refine jo rfl (xg rfl (fun hb=>(bI.1 (zo rfl hb))) rfl) ?_
              refine jo (v:=(.bool (x5&&x6))) rfl (zb rfl) ?_
              refine ja rfl rfl rfl rfl (fun p=>qp (v:=(vi n.2.1)) (zb rfl)) fun c0 bJ=>?_
              refine ja rfl rfl rfl rfl (fun p=>qp (pu (bJ.1 (zo rfl p)) rfl)) fun c1 bK=>?_
              refine jo rfl (xg rfl (fun hb=>(bK.1 (zo rfl hb))) rfl) ?_
              refine ze ?_
              refine q8 rfl k (fun k=>?_) (fun k=>?_)
              · refine zw ?_
                refine zu ?_
                refine zh c ?_
                refine zh (vi f) ?_
                refine zh (vi m) ?_
                obtain⟨aw,ax,k⟩:=zt k
                refine xx (Oc:=[ar]) (Or:=[]++A) (cs:=[]) (vs:=[c,(vi f),(vi m)]) rfl zm8 rfl rfl ((pk 0 rfl (List.Perm.refl _))) (z0z au ax) fun b3 b4 bL M ay=>?_
                obtain⟨O,rfl,rfl,W⟩:=ay
                refine ze ?_
                refine q8 rfl k (fun k=>?_) (fun k=>?_)
                · refine qd ?_
                  replace d:=lm k d
                  obtain rfl:=Option.some.inj d
                  refine uq (D:=[]) (J:=[]) (O':=[O]) (rs:=[]) (vs:=[]) (((aa.trans I).trans K).trans M) ((pk 0 rfl (List.Perm.refl _))) rfl trivial ?_
                  exact⟨O,rfl,rfl,W⟩
                · refine qb ?_
                  exact⟨dkt,M,jg,(aw.2,O),trivial,prm,(Option.some.inj k).symm,W,trivial⟩
              · refine qb ?_
                exact⟨dkt,(RH.le.refl _),jg,(n.2.2,ar),trivial,prm,(Option.some.inj k).symm,au,trivial⟩
            · rintro⟨x,az⟩ b5 c2 P ⟨rfl,L,_⟩
              replace d:=z0o d
              refine zw ?_
              refine zw ?_
              obtain⟨aA,Q,S,d⟩:=zgr d
              obtain⟨B,aB,d⟩:=zt d
              refine bu 15 [] [phX (vi f),phX (.bool (decide (0<f))),phX (.bool (decide (0<f))),phG (true&&((decide (0<f))==true)) (phX c),phG (true&&((decide (0<f))==true)) (phX (vi f)),phG (true&&((decide (0<f))==true)) (phX (vi (f-1))),phG (true&&((decide (0<f))==true)) ((fun u _=>wu (zm .u64) c x u (f-1).toNat)),phG (true&&((decide (0<f))==true)) (phX (.int .u64 (ix x (f-1)))),phG (true&&((decide (0<f))==true)) (phX c),phG (true&&((decide (0<f))==true)) (phX (vi n.1)),phG (true&&((decide (0<f))==true)) ((fun u _=>wu (zm .u64) c x u n.1.toNat)),phG (true&&((decide (0<f))==true)) (phX (.int .u64 (ix x n.1))),phG (true&&((decide (0<f))==true)) (phX (.bool (B.getD default))),phG (true&&((decide (0<f))==true)) (phX (.bool (!(B.getD default)))),phX (.bool ((decide (0<f))&&(!(B.getD default))))] mixed (by kernel_rfl) (xu ⟨za,za,za,(qh za),(qh za),(qh za),(qh (fun _ _ _ _ h=>h)),(qh za),(qh za),(qh za),(qh (fun _ _ _ _ h=>h)),(qh za),(qh za),(qh za),za,trivial⟩) ⟨?_,?_,?_,?_,?_,?_,?_,?_,?_,?_,?_,?_,?_,?_,?_,trivial⟩ fun b6 w=>?_
              · intro l c3 o y hd
                have a1:l 1=(vi f):=y 1 rfl
                exact zi rfl rfl rfl (zf (zb a1))
              · rintro l c4 o y ⟨q,_⟩
                have bN:=q rfl
                exact zi rfl rfl rfl (zf (oz bN rfl))
              · rintro l c5 o y ⟨q,_⟩
                have bO:=q rfl
                exact zi rfl rfl rfl (zf (zb bO))
              · rintro l c6 o y ⟨q,_⟩
                have a0:l 0=c:=y 0 rfl
                exact zx (Gj:=true) (Bj:=decide (0<f)) rfl rfl rfl (jl (q rfl)) rfl (fun z p=>zf (zb a0))
              · rintro l c7 o y ⟨q,_⟩
                have a1:l 1=(vi f):=y 1 rfl
                exact zx (Gj:=true) (Bj:=decide (0<f)) rfl rfl rfl (jl (q rfl)) rfl (fun z p=>zf (zb a1))
              · rintro l c8 o y ⟨q,E,_⟩
                have aC:=q rfl
                exact zx (Gj:=true) (Bj:=decide (0<f)) rfl rfl rfl (jl (E rfl)) rfl (fun z p=>zf (kz (show l 77=(vi f) from aC.1 (zo rfl p)) rfl (aA (zo z p))))
              · rintro l c9 o y ⟨q,E,d2,_⟩
                have aE:=q rfl
                have aF:=E rfl
                exact zx (Gj:=true) (Bj:=decide (0<f)) rfl rfl rfl (jl (d2 rfl)) rfl (fun z p=>qf (i:=(f-1).toNat) yn (show l 76=c from aE.1 (zo rfl p)) (L.mono o) (zk (show l 78=(vi (f-1)) from aF.1 (zo rfl p)) (Q (zo z p)).1) (zy (Q (zo z p))))
              · rintro l da o y ⟨q,E,_⟩
                have aG:=q rfl
                exact zx (Gj:=true) (Bj:=decide (0<f)) rfl rfl rfl (jl (E rfl)) rfl (fun z p=>j3 (jh (i:=(f-1).toNat) (j:=0) yg (L.mono o) rfl rfl (aG.1 (zo rfl p)) (zy (Q (zo z p)))) (fun _ _ h=>q9.1 h))
              · rintro l db o y ⟨q,_⟩
                have a0:l 0=c:=y 0 rfl
                exact zx (Gj:=true) (Bj:=decide (0<f)) rfl rfl rfl (jl (q rfl)) rfl (fun z p=>zf (zb a0))
              · rintro l dc o y ⟨q,_⟩
                have bQ:l 11=(vi n.1):=y 11 rfl
                exact zx (Gj:=true) (Bj:=decide (0<f)) rfl rfl rfl (jl (q rfl)) rfl (fun z p=>zf (zb bQ))
              · rintro l b7 o y ⟨q,E,d2,_⟩
                have aH:=q rfl
                have aI:=E rfl
                exact zx (Gj:=true) (Bj:=decide (0<f)) rfl rfl rfl (jl (d2 rfl)) rfl (fun z p=>qf (i:=n.1.toNat) yn (show l 81=c from aH.1 (zo rfl p)) (L.mono o) (zk (show l 82=(vi n.1) from aI.1 (zo rfl p)) (S (zo z p)).1) (zy (S (zo z p))))
              · rintro l b8 o y ⟨q,E,_⟩
                have aJ:=q rfl
                exact zx (Gj:=true) (Bj:=decide (0<f)) rfl rfl rfl (jl (E rfl)) rfl (fun z p=>j3 (jh (i:=n.1.toNat) (j:=0) yg (L.mono o) rfl rfl (aJ.1 (zo rfl p)) (zy (S (zo z p)))) (fun _ _ h=>q9.1 h))
              · rintro l X o y ⟨q,E,d2,d3,_⟩
                have aK:phG (true&&((decide (0<f))==true)) (phX (.int .u64 (ix x (f-1)))) (l 80) X:=q rfl
                have aL:phG (true&&((decide (0<f))==true)) (phX (.int .u64 (ix x n.1))) (l 84) X:=E rfl
                exact zx (Gj:=true) (Bj:=decide (0<f)) rfl rfl rfl (jl (d2 rfl)) rfl (fun z p=>kw (vs:=[(.int .u64 (ix x (f-1))),(.int .u64 (ix x n.1))]) z9f (by simp only [List.map,ev,(show l 80=(.int .u64 (ix x (f-1))) from aK.1 (zo rfl p)),(show l 84=(.int .u64 (ix x n.1)) from aL.1 (zo rfl p))]<;>rfl) ((by have bR:=(dw aB (zo z p));exact yw  bR)) (fun _ _ h=>h))
              · rintro l b9 o y ⟨q,E,_⟩
                have aM:=q rfl
                exact zx (Gj:=true) (Bj:=decide (0<f)) rfl rfl rfl (jl (E rfl)) rfl (fun z p=>zf (ow (show l 85=(.bool (B.getD default)) from aM.1 (zo rfl p))))
              · rintro l ca o y ⟨q,E,_⟩
                have bS:=q rfl
                have aN:=E rfl
                exact zi rfl rfl rfl (zf (xg bS (fun hb=>(show l 86=(.bool (!(B.getD default))) from aN.1 (zo rfl hb))) rfl))
              intro cb aO
              intro cc aP
              intro cd aQ
              intro ce cf
              intro cg ch
              intro ci cj
              intro ck cl
              intro cm cn
              intro co cp
              intro cq cr
              intro ct cu
              intro cv cw
              intro cx cy
              intro cz cA
              intro cB aR
              obtain rfl:=Eq.symm aO
              obtain rfl:=Eq.symm aP
              obtain rfl:=Eq.symm aQ
              obtain rfl:=Eq.symm aR
              refine ze ?_
              refine q8 rfl d (fun d=>?_) (fun d=>?_)
              · refine zw ?_
                refine zu ?_
                refine zh c ?_
                refine zh (vi f) ?_
                refine zh (vi m) ?_
                refine zh (vi n.1) ?_
                obtain⟨C,aS,d⟩:=zt d
                refine xx (Oc:=[az]) (Or:=[]++A) (cs:=[]) (vs:=[c,(vi f),(vi m),(vi n.1)]) rfl zlh rfl rfl ((pk 0 rfl (List.Perm.refl _))) (z1o (L.mono w) aS) fun cC cD bT ac aT=>?_
                obtain⟨aU,rfl,rfl,aV⟩:=aT
                refine zl (vi C.1) ?_
                refine ze ?_
                refine zw ?_
                refine zu ?_
                refine zh (vi C.1) ?_
                refine zl (vi C.1) ?_
                refine ze ?_
                refine jb ?_
                exact⟨dkt,((((I.trans K).trans P).trans w).trans ac),jg,(F1,C.1,m,t.1,x5,x6,C.2,aU),Nat.lt_succ_self _,⟨rfl,rfl,rfl,rfl,rfl,trivial⟩,prm,d,aV,trivial⟩
              · refine qb ?_
                refine zw ?_
                refine zu ?_
                refine zh c ?_
                refine zh (vi f) ?_
                refine zh (vi m) ?_
                refine zh (vi n.1) ?_
                obtain⟨e,aW,d⟩:=zt d
                refine xx (Oc:=[az]) (Or:=[]++A) (cs:=[]) (vs:=[c,(vi f),(vi m),(vi n.1)]) rfl zma rfl rfl ((pk 0 rfl (List.Perm.refl _))) (z3a (L.mono w) aW) fun cE cF bU T aX=>?_
                obtain⟨Y,rfl,rfl,Z⟩:=aX
                refine zh (.tuple #[(vi e.1),(.bool e.2.1)]) ?_
                refine zz (qg rfl rfl) ?_
                refine zz (qg rfl rfl) ?_
                refine zl (vi e.1) ?_
                refine zl (.bool e.2.1) ?_
                refine ze ?_
                refine zw ?_
                refine zu ?_
                refine zh (.bool e.2.1) ?_
                refine zl (.bool e.2.1) ?_
                refine ze ?_
                refine zw ?_
                refine zu ?_
                refine zh (vi e.1) ?_
                refine zh (vi f) ?_
                obtain⟨aY,d⟩:=zg d
                refine zz (kz rfl rfl aY) ?_
                refine zh (vi m) ?_
                refine zh (vi e.1) ?_
                obtain⟨aZ,d⟩:=zg d
                refine zz (kz rfl rfl aZ) ?_
                refine zl (vi (e.1-f)) ?_
                refine zl (vi (m-e.1)) ?_
                refine ze ?_
                refine zw ?_
                refine zu ?_
                refine zh (vi (m-f)) ?_
                obtain⟨a2,d⟩:=zg d
                refine zz (z4k rfl rfl a2) ?_
                refine zl (vi ((m-f)/8)) ?_
                refine ze ?_
                refine zw ?_
                refine zu ?_
                refine zh (vi (e.1-f)) ?_
                refine zh (vi (m-e.1)) ?_
                refine zz (jc rfl rfl) ?_
                refine ze ?_
                refine q8 rfl d (fun d=>?_) (fun d=>?_)
                · refine zw ?_
                  refine zu ?_
                  refine zh (vi (e.1-f)) ?_
                  refine zh (vi ((m-f)/8)) ?_
                  refine zz (mr rfl rfl) ?_
                  refine zl (.bool (decide (((m-f)/8)≤(e.1-f)))) ?_
                  refine ze ?_
                  refine zw ?_
                  refine zu ?_
                  refine zh c ?_
                  refine zh (vi f) ?_
                  refine zh (vi e.1) ?_
                  refine zh (vi t.1) ?_
                  obtain⟨a3,a4,d⟩:=zt d
                  refine xx (Oc:=[Y]) (Or:=[]++A) (cs:=[]) (vs:=[c,(vi f),(vi e.1),(vi t.1)]) rfl zjw rfl rfl ((pk 0 rfl (List.Perm.refl _))) (ih Z a4) fun cG cH bV ad a5=>?_
                  obtain⟨a6,rfl,rfl,a7⟩:=a5
                  refine ze ?_
                  refine zu ?_
                  refine zh (vi e.1) ?_
                  obtain⟨a8,d⟩:=zg d
                  refine zz (qm rfl rfl a8) ?_
                  refine zl (vi (e.1+1)) ?_
                  refine ze ?_
                  exact⟨dkt,(((((I.trans K).trans P).trans w).trans T).trans ad),jg,(F1,e.1+1,m,t.1,decide (((m-f)/8)≤(e.1-f)),e.2.1,a3,a6),Nat.lt_succ_self _,⟨rfl,rfl,rfl,rfl,rfl,trivial⟩,prm,d,a7,trivial⟩
                · refine zw ?_
                  refine zu ?_
                  refine zh (vi (m-e.1)) ?_
                  refine zh (vi ((m-f)/8)) ?_
                  refine zz (mr rfl rfl) ?_
                  refine zl (.bool (decide (((m-f)/8)≤(m-e.1)))) ?_
                  refine ze ?_
                  refine zw ?_
                  refine zu ?_
                  refine zh c ?_
                  refine zh (vi e.1) ?_
                  obtain⟨a9,d⟩:=zg d
                  refine zz (qm rfl rfl a9) ?_
                  refine zh (vi m) ?_
                  refine zh (vi t.1) ?_
                  obtain⟨ba,bb,d⟩:=zt d
                  refine xx (Oc:=[Y]) (Or:=[]++A) (cs:=[]) (vs:=[c,(vi (e.1+1)),(vi m),(vi t.1)]) rfl zjw rfl rfl ((pk 0 rfl (List.Perm.refl _))) (ih Z bb) fun cI cJ bW ae bc=>?_
                  obtain⟨be,rfl,rfl,bf⟩:=bc
                  refine ze ?_
                  refine zu ?_
                  refine zh (vi e.1) ?_
                  refine zl (vi e.1) ?_
                  refine ze ?_
                  exact⟨dkt,(((((I.trans K).trans P).trans w).trans T).trans ae),jg,(F1,f,e.1,t.1,decide (((m-f)/8)≤(m-e.1)),e.2.1,ba,be),Nat.lt_succ_self _,⟨rfl,rfl,rfl,rfl,rfl,trivial⟩,prm,d,bf,trivial⟩
theorem z3y{N:Nat}{R:RH}{data:List Int}{c:Value}{fC:Frag}(e:ORep (zm .u64) R fC c data){a:Int}{b:Int}{limit:Int}{r:List Int}(f:xe N N data a b limit=some r):CallG prog 75 #[c,(vi a),(vi b),(vi limit)] R [fC] (fun v R' O'=> ∃ d,v= .tuple #[]∧O'=[d]∧ORep (zm .u64) R' d c r):=z2n N e f
end GV
end Go.Proofs.Ytkhihcleegljhaa
