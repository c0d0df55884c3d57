import Derived.Test.YtkhihcleegljhaaShWe
import Derived.Test.YtkhihcleegljhaaRows
set_option linter.unusedVariables false
set_option linter.unusedSimpArgs false
set_option linter.unusedSectionVars false
namespace Go.Proofs.Ytkhihcleegljhaa
namespace GV
open _root_.Go.Proofs.Try
open Go.IntWalk
set_option maxRecDepth 100000
set_option maxHeartbeats 20000000
theorem z8j{N:Nat}{R:RH}{x:List Int}{a:Value}{fI:Frag}(c:ORep (zm .u64) R fI a x){r:List Int}(b:z3g N x=some r):CallG prog 53 #[a] R [fI] (fun v R' O'=> ∃ d,v= .tuple #[]∧O'=[d]∧ORep (zm .u64) R' d a r):=by
 refine yo (args:=[a]) func53 rfl rfl fun A=>?_;rw [z3g] at b;refine zq (zh a (zz (z1a rfl underlying71 rfl c) (zl (vi (↑x.length:Int)) (ze (zu (zh a (zh (vi (↑x.length:Int)) (zh (vi (↑x.length:Int)) (zz (z4q underlying3 underlying55 rfl) ?_)))))))))
 obtain⟨k,l,b⟩:=zt b;refine qz rfl zkj rfl (z6s  l) fun p q e m=>?_;obtain rfl:=m;obtain⟨s,n,b⟩:=zt b
 refine xx (Oc:=[fI]) (Or:=[]++A) (cs:=[]) (vs:=[a,(vi 0),(vi (↑x.length:Int)),(vi k)]) rfl zjw rfl rfl ((pk 0 rfl (List.Perm.refl _))) (z3y (c.mono e) n) fun t o j f h=>?_;obtain⟨g,rfl,rfl,i⟩:=h;refine ze ?_;show z6r _ _ _ _ _ .ret _ [] _ _;obtain rfl:=Option.some.inj b
 refine uq (D:=[]) (J:=[]) (O':=[g]) (rs:=[]) (vs:=[]) (e.trans f) ((pk 0 rfl (List.Perm.refl _))) rfl trivial ?_;exact⟨g,rfl,rfl,i⟩
theorem zlp:Enters prog 53:=enters_of func53 rfl (by kernel_rfl)
theorem z6w{N:Nat}{R:RH}{s:List Int}{b:Value}{fE:Frag}(y:ORep (zm .u64) R fE b s){r:(List Int)}(o:z1n N s=some r):CallG prog 54 #[b] R [fE] (fun v R' O'=> ∃ u0,v=u0∧O'=[]∧VRep (tSl false (zm .u64)) R' u0 r):=by
 refine yo (args:=[b]) func54 rfl rfl fun A=>?_;rw [z1n] at o;refine zq (zl vs0 (ze (zw (zq (zh b (zz (z1a rfl underlying71 rfl y) (zz (jc rfl rfl) (ze (q8 rfl o (fun o=>?_) (fun o=>?_))))))))));refine zq (zh b (zl b (ze (l5 (i:=0) rfl y fun R2 aC h4=>?_))))
 have h5:VRep (tSl false (zm .u64)) R2 b s:=(z6j h4);refine qd ?_;obtain rfl:=Option.some.inj o;refine uq (D:=[]) (J:=[]) (O':=[]) (rs:=[.tmp 2]) (vs:=[b]) aC ((List.Perm.refl _)) rfl ⟨rfl,trivial⟩ ?_;exact⟨b,rfl,rfl,h5⟩;refine qb ?_;obtain⟨q7,c,o⟩:=zt o
 refine ql (γ:=Unit) (rs [2,6,10,60]) (fun g=>[]) (fun g=>[fE]++A) (fun g R=>q7=Ex.go g∧True) ?_ ?_;refine zq (zl (vi 1) (ze (qa (j4 (γ:=Nat×Int) (rs [2,6,10,60]) (fun g=>[(3,(vi g.2))]) (fun g=>[fE]++A) (fun g R=>ik N s g.1 g.2=some q7∧True) (fun g=>g.1) (N,1) prm ⟨c,trivial⟩ ?_))));clear c
 rintro⟨Q,a⟩ a0 bg m ⟨c,_⟩;rcases Q with _|Q;exact qj c;replace c:ik N s (Q+1) a=some q7:=c;rw [ik] at c;refine zw (zq (zh (vi a) (zh b (zz (z1a rfl underlying71 rfl (y.mono m)) (zz (jc rfl rfl) (ze (q8 rfl c (fun c=>?_) (fun c=>?_))))))))
 refine qb (zw (qa (zw (z5k 10 mixed (by kernel_rfl) (by kernel_rfl) ?_))));refine oq (v:=b) (zb rfl) ?_;refine oq (v:=(vi a)) (zb rfl) ?_;obtain⟨X,c⟩:=zg c;refine zbx (z7w (i:=a.toNat) yn rfl (y.mono m) (zk rfl X.1) (zy X)) fun bh aE=>?_
 refine oq (z0r (z98 (i:=a.toNat) (j:=0) yg (y.mono m) rfl rfl aE (zy X))) ?_;refine oq (v:=b) (zb rfl) ?_;refine oq (v:=(vi a)) (zb rfl) ?_;obtain⟨aF,c⟩:=zg c;refine oq (kz rfl rfl aF) ?_;obtain⟨Y,c⟩:=zg c
 refine zbx (z7w (i:=(a-1).toNat) yn rfl (y.mono m) (zk rfl Y.1) (zy Y)) fun bi aG=>?_;refine oq (z0r (z98 (i:=(a-1).toNat) (j:=0) yg (y.mono m) rfl rfl aG (zy Y))) ?_;refine oq (pu rfl rfl) ?_;intro bj C;refine ze (q8 rfl c (fun c=>?_) (fun c=>?_))
 refine zq (zh b (zh (vi a) ?_));obtain⟨Z,c⟩:=zg c;refine z1x rfl (zf (z7f (lo:=a.toNat) (hi:=s.length) yn rfl (y.mono (m.trans C)) (.inr ⟨_,congrArg some (zk rfl Z.1)⟩) (.inl ⟨rfl,rfl,rfl⟩) (z4t Z) (z1l Z))) fun bk bl V aH=>?_;obtain rfl:=Eq.symm aH;refine zl (z5u 1 b a.toNat s.length) (ze ?_)
 obtain⟨f,k,c⟩:=zt c;refine ql (γ:=(Int×List Int)×Frag) (rs [3,4,5,6,29,54]) (fun g=>[(3,(vi g.1.1))]) (fun g=>[g.2]++A) (fun g R=>f=g.1∧ORep (zm .u64) R g.2 b g.1.2∧True) ?_ ?_
 refine zq (zl (vi 1) (ze (qa (j4 (γ:=Nat×Int×Int×(List Int)×Frag) (rs [3,4,5,6,29,54]) (fun g=>[(3,(vi g.2.1)),(5,(vi g.2.2.1))]) (fun g=>[g.2.2.2.2]++A) (fun g R=>ay N s a g.1 g.2.1 g.2.2.1 g.2.2.2.1=some f∧ORep (zm .u64) R g.2.2.2.2 b g.2.2.2.1∧True) (fun g=>g.1) (N,a,1,s,fE) prm ⟨k,(y.mono ((m.trans C).trans V)),trivial⟩ ?_))))
 clear k;rintro⟨S,z,d,t,ac⟩ a1 bm ad ⟨k,w,_⟩;rcases S with _|S;exact qj k;replace k:ay N s a (S+1) z d t=some f:=k;rw [ay] at k
 refine zw (zq (zh (vi d) (zh (z5u 1 b a.toNat s.length) (z1x rfl (zf (zc5 rfl underlying71 rfl w)) fun bn bo e aI=>?_))));obtain rfl:=Eq.symm aI;refine zz (jc rfl rfl) (ze (q8 rfl k (fun k=>?_) (fun k=>?_)));refine qb ?_;obtain⟨U,p,k⟩:=zt k
 refine ql (γ:=(Int×List Int)×Frag) (rs [3,4,35,54]) (fun g=>[(3,(vi g.1.1))]) (fun g=>[g.2]++A) (fun g R=>U=g.1∧ORep (zm .u64) R g.2 b g.1.2∧True) ?_ ?_;refine qa (zw ?_);obtain⟨I,aJ,K,p⟩:=zgr p
 refine bu 10 [] [phX (z5u 1 b a.toNat s.length),phX (vi d),(fun u _=>wu (zm .u64) b t u (a+d).toNat),phX (.int .u64 (ix t (a+d))),phX (z5u 1 b a.toNat s.length),phX (vi d),phX (vi (d-1)),(fun u _=>wu (zm .u64) b t u (a+(d-1)).toNat),phX (.int .u64 (ix t (a+(d-1)))),phX (.bool (decide ((ix t (a+d))≠(ix t (a+(d-1))))))] mixed (by kernel_rfl) (xu ⟨za,za,(fun _ _ _ _ h=>h),za,za,za,za,(fun _ _ _ _ h=>h),za,za,trivial⟩) ⟨?_,?_,?_,?_,?_,?_,?_,?_,?_,?_,trivial⟩ fun bp x=>?_
 intro l bq q H hd;exact zi rfl rfl rfl (zf (zb (H 4 rfl)));intro l br q H hd;exact zi rfl rfl rfl (zf (zb (H 5 rfl)));rintro l bs q H ⟨L,d1,_⟩
 exact zi rfl rfl rfl (z3c (T:=(zm .u64)) (lo:=a.toNat) (hi:=s.length) (n:=(a+d).toNat) yn (L rfl) ((w.mono e).mono q) (zk (d1 rfl) I.2.1) (zcd I) (zc7 I) (za8 I));rintro l bt q H ⟨L,_⟩
 exact zi rfl rfl rfl (j3 (jh (i:=(a+d).toNat) (j:=0) yg ((w.mono e).mono q) rfl rfl (L rfl) (zy (zc6 I))) (fun _ _ h=>q9.1 h));intro l bv q H hd;exact zi rfl rfl rfl (zf (zb (H 4 rfl)));intro l bw q H hd;exact zi rfl rfl rfl (zf (zb (H 5 rfl)));rintro l bx q H ⟨L,_⟩
 exact zi rfl rfl rfl (zf (kz (L rfl) rfl aJ));rintro l bz q H ⟨L,d1,_⟩;exact zi rfl rfl rfl (z3c (T:=(zm .u64)) (lo:=a.toNat) (hi:=s.length) (n:=(a+(d-1)).toNat) yn (L rfl) ((w.mono e).mono q) (zk (d1 rfl) K.2.1) (zcd K) (zc7 K) (za8 K));rintro l bA q H ⟨L,_⟩
 exact zi rfl rfl rfl (j3 (jh (i:=(a+(d-1)).toNat) (j:=0) yg ((w.mono e).mono q) rfl rfl (L rfl) (zy (zc6 K))) (fun _ _ h=>q9.1 h));rintro l bB q H ⟨L,d1,_⟩;exact zi rfl rfl rfl (zf (jd (L rfl) (d1 rfl)));intro bC aL bD aM bE bF bG aN bH aO bI aP bJ aQ bK bL bM aR bN aS;obtain rfl:=Eq.symm aL
 obtain rfl:=Eq.symm aM;obtain rfl:=Eq.symm aN;obtain rfl:=Eq.symm aO;obtain rfl:=Eq.symm aP;obtain rfl:=Eq.symm aQ;obtain rfl:=Eq.symm aR;obtain rfl:=Eq.symm aS;refine ze (q8 rfl p (fun p=>?_) (fun p=>?_));refine zq (zh b (zh (vi z) (zh (z5u 1 b a.toNat s.length) (zh (vi d) ?_))));obtain⟨M,p⟩:=zg p
 refine z1x rfl (z3c (T:=(zm .u64)) (lo:=a.toNat) (hi:=s.length) (n:=(a+d).toNat) yn rfl (w.mono (e.trans x)) (zk rfl M.2.1) (zcd M) (zc7 M) (za8 M)) fun bO bP E aT=>?_;refine z5v (i:=(a+d).toNat) (j:=0) rfl yg (w.mono ((e.trans x).trans E)) rfl rfl aT (zy (zc6 M)) fun a2 af=>?_
 obtain rfl:=q9.1 af;obtain⟨O,p⟩:=zg p;refine z03 (i:=z.toNat) rfl yn rfl (w.mono ((e.trans x).trans E)) (zk rfl O.1) (zy O) fun a3 ag=>?_;refine z1j (i:=z.toNat) (j:=0) yg (w.mono ((e.trans x).trans E)) rfl rfl ag (zy O) rfl (q9.2 rfl) fun ah ai=>?_
 refine ze (zu (zh (vi z) ?_));obtain⟨aj,p⟩:=zg p;refine zz (qm rfl rfl aj) (zl (vi (z+1)) (ze ?_));exact⟨dkt,(x.trans E),jg,((z+1,(up t z (ix t (a+d)))),ah),⟨rfl,trivial⟩,prm,(Option.some.inj p).symm,ai,trivial⟩;refine qb ?_
 exact⟨dkt,x,jg,((z,t),ac),⟨rfl,trivial⟩,prm,(Option.some.inj p).symm,(w.mono (e.trans x)),trivial⟩;rintro⟨U,aU⟩ a4 bQ ak ⟨rfl,aV,_⟩;refine zu (zh (vi d) ?_);obtain⟨al,k⟩:=zg k;refine zz (qm rfl rfl al) (zl (vi (d+1)) (ze ?_))
 exact⟨dkt,(e.trans ak),jg,(S,U.1,d+1,U.2,aU),Nat.lt_succ_self _,⟨rfl,rfl,trivial⟩,prm,k,aV,trivial⟩;refine jb ?_;exact⟨dkt,(ad.trans e),jg,((z,t),ac),⟨rfl,trivial⟩,prm,(Option.some.inj k).symm,(w.mono e),trivial⟩;rintro⟨f,aW⟩ a5 bR am ⟨rfl,an,_⟩;refine zq (zh b (zh (vi f.1) ?_))
 obtain⟨B,c⟩:=zg c;refine z1x rfl (zf (z7f (lo:=f.1.toNat) (hi:=f.2.length) yn rfl an (.inr ⟨_,congrArg some (zk rfl B.1)⟩) (.inl ⟨rfl,rfl,rfl⟩) (z4t B) (z1l B))) fun a6 a7 P ao=>?_;obtain rfl:=Eq.symm ao
 refine z9k (Oc:=[aW]) (Or:=[]++A) (List.Perm.refl _) (z8u (lo:=f.1.toNat) (hi:=f.2.length) rfl underlying71 zk0 (an.mono P) (z4t B) (z1l B) rfl) ?_;rintro a8 a9 aX aY ⟨rfl,ba,rfl,rfl,W⟩;refine qw (zh b (zh (vi f.1) ?_));obtain⟨F,c⟩:=zg c
 refine z7v (v:=b) (lo:=(0:Int).toNat) (hi:=f.1.toNat) (mx:=(capOf b)) rfl yn rfl W (.inl ⟨rfl,rfl⟩) (.inr ⟨_,congrArg some (zk rfl (z8y F))⟩) (.inl ⟨rfl,rfl⟩) (z4t F) (z1l F) (Nat.le_trans (z1l F) (z9g W)) (Nat.le_refl _) fun G ap aB=>?_;refine zl G (ze (l5 (i:=0) rfl ap fun aq aa ar=>?_))
 have au:VRep (tSl false (zm .u64)) aq G (cut (z4z f.2 f.1.toNat (List.replicate (f.2.length-f.1.toNat) (0:Int))) 0 f.1):=(z6j ar);refine qd ?_;replace o:=lm c o;obtain rfl:=Option.some.inj o
 refine uq (D:=[]) (J:=[]) (O':=[]) (rs:=[.tmp 2]) (vs:=[G]) (((((m.trans C).trans V).trans am).trans P).trans aa) ((List.Perm.refl _)) rfl ⟨rfl,trivial⟩ ?_;exact⟨G,rfl,rfl,au⟩;refine qb (zu (zh (vi a) ?_));obtain⟨av,c⟩:=zg c;refine zz (qm rfl rfl av) (zl (vi (a+1)) (ze ?_))
 exact⟨dkt,C,jg,(Q,a+1),Nat.lt_succ_self _,⟨rfl,trivial⟩,prm,c,trivial⟩;refine jb ?_;exact⟨dkt,m,jg,(),trivial,prm,(Option.some.inj c).symm,trivial⟩;rintro o6 bb R8 aw ⟨rfl,_⟩;replace o:=z0o o;refine zq (zh b (zl b (ze (l5 (i:=0) rfl (y.mono aw) fun ax ab az=>?_))))
 have aA:VRep (tSl false (zm .u64)) ax b s:=(z6j az);refine qd ?_;obtain rfl:=Option.some.inj o;refine uq (D:=[]) (J:=[]) (O':=[]) (rs:=[.tmp 2]) (vs:=[b]) (aw.trans ab) ((List.Perm.refl _)) rfl ⟨rfl,trivial⟩ ?_;exact⟨b,rfl,rfl,aA⟩
theorem zlx:Enters prog 54:=enters_of func54 rfl (by kernel_rfl)
theorem z5x{N:Nat}{R:RH}{x:Sa}{n:Value}(h:VRep (zn false false) R n x){r:(List Int)}(d:z09 N x=some r):CallP prog 40 #[n] R (fun v R'=>VRep (tSl false (zm .u64)) R' v r):=by
 refine qi (args:=[n]) func40 rfl rfl fun A=>?_;rw [z09] at d;refine zq (bg (T:=(zn false false)) rfl rfl rfl h fun v1 R3 j h5 h2=>?_);refine zl vs0 (qw (zl vs0 (ze ?_)));obtain⟨W,a,d⟩:=zt d
 refine ql (γ:=(List Int)×Value×Frag) (rs [3,4,5,7,8,36]) (fun g=>[(3,g.2.1)]) (fun g=>[g.2.2]++A) (fun g R=>W=g.1∧ORep (zm .u64) R g.2.2 g.2.1 g.1∧True) ?_ ?_;refine zq (zz (uf z2e rfl rfl h5 (h.mono j)) (zz (uf z2e rfl rfl h5 (h.mono j)) (zz (ax (fs:=[n]) (cs:=[]) rfl rfl) ?_)))
 obtain⟨p,ab,a⟩:=zt a;refine qz rfl zj3 rfl (z0q (h.mono j) (z9h (fs:=[n]) zj8 fun R1 hq z0 u0 y k0 hy=>by obtain rfl:=q9.1 k0;exact CallP.mono (fe ((h.mono j).mono hq) hy) fun v R2 _ hv=>ai.2 hv) ab) fun aM aN k F=>?_
 refine zz (qo rfl underlying33 rfl (jr F)) (zh (vi 0) (ze (qa (z5p ?_))))
 refine j4 (γ:=Nat×(List Int)×Int×Value×Frag) (rs [3,4,5,7,8,9,14,36]) (fun g=>[(3,g.2.2.2.1),(14,(vi g.2.2.1))]) (fun g=>[g.2.2.2.2]++A) (fun g R=>oh N x p g.1 g.2.1 g.2.2.1=some W∧ORep (zm .u64) R g.2.2.2.2 g.2.2.2.1 g.2.1∧True) (fun g=>g.1) (N,[],0,vs0,emp) prm ⟨a,(z1p (T:=(zm .u64))),trivial⟩ ?_
 clear a;rintro⟨q,s,l,G,C⟩ aO aP e ⟨a,H,_⟩;rcases q with _|q;exact qj a;replace a:oh N x p (q+1) s l=some W:=a;rw [oh] at a;refine zq (zz (jc rfl rfl) (ze (zw (q8 rfl a (fun a=>?_) (fun a=>?_)))));refine qb (zw (qa (zq ?_)))
 obtain⟨I,a⟩:=zg a;refine ug (i:=l.toNat) rfl lc rfl (jr (F.mono e)) (zk rfl I.1) (zy I) fun aQ ac=>?_;refine ji rfl ty3 rfl ac fun aR ad=>?_;obtain rfl:=q9.1 ad;refine zl (vi (ix p l)) (qw (zl (.int .u64 0) (ze ?_)));obtain⟨c,b,a⟩:=zt a
 refine ql (γ:=Int) (rs [6,7,8,9,18,31]) (fun g=>[(6,(.int .u64 g))]) (fun g=>[C]++A) (fun g R=>c=g∧True) ?_ ?_;refine zq (zz (uf z2e rfl rfl (h5.mono (k.trans e)) (h.mono ((j.trans k).trans e))) (zh (vi (ix p l)) ?_));obtain⟨m,ae,b⟩:=zt b
 refine qz rfl zfs rfl (bi (h.mono ((j.trans k).trans e)) ae) fun aS aT K L=>?_
 refine zz (qo rfl underlying33 rfl (jr L)) (zh (vi 0) (ze (qa (j4 (γ:=Nat×Int×Int) (rs [6,7,8,9,22,31]) (fun g=>[(6,(.int .u64 g.2.1)),(22,(vi g.2.2))]) (fun g=>[C]++A) (fun g R=>om N m g.1 g.2.1 g.2.2=some c∧True) (fun g=>g.1) (N,0,0) prm ⟨b,trivial⟩ ?_))));clear b
 rintro⟨t,o,f⟩ aU aV u ⟨b,_⟩;rcases t with _|t;exact qj b;replace b:om N m (t+1) o f=some c:=b;rw [om] at b;refine zq (zz (jc rfl rfl) (ze (zw (q8 rfl b (fun b=>?_) (fun b=>?_)))));refine qb (zw (qa (zq ?_)));obtain⟨M,b⟩:=zg b
 refine ug (i:=f.toNat) rfl lc rfl (jr (L.mono u)) (zk rfl M.1) (zy M) fun aW af=>?_;refine ji rfl ty3 rfl af fun aX ag=>?_;obtain rfl:=q9.1 ag;refine zl (vi (ix m f)) (ze (zu (zh (.int .u64 o) (zh (vi (ix m f)) ?_))));obtain⟨aj,b⟩:=zg b;refine zz (z9d rfl rfl aj) ?_
 obtain⟨ak,b⟩:=zg b;refine zz (zff rfl rfl ak) (zl (.int .u64 (ior o (ah .u64 (1:Int) (ix m f)))) (ze (zu ?_)));obtain⟨al,b⟩:=zg b;refine zz (qm rfl rfl al) (zh (vi (f+1)) (ze ?_))
 exact⟨dkt,(RH.le.refl _),jg,(t,ior o (ah .u64 (1:Int) (ix m f)),f+1),Nat.lt_succ_self _,⟨rfl,rfl,trivial⟩,prm,b,trivial⟩;refine jb ?_;exact⟨dkt,(K.trans u),jg,o,⟨rfl,trivial⟩,prm,(Option.some.inj b).symm,trivial⟩;rintro c aY aZ w ⟨rfl,_⟩
 refine zu (zh G (zh (.int .u64 c) (vg (T:=(zm .u64)) (X:=([c]:List Int)) (ps:=[(0,(.int .u64 c))]) (css:=[[(.int .u64 c)]]) rfl underlying71 zk0 rfl rfl (qx ⟨rfl,trivial⟩) rfl rfl (by decide) fun am a0 E an=>?_)));refine jf (i:=0) rfl an fun ao z ap=>?_
 have aq:VRep (tSl true (zm .u64)) ao am ([c]:List Int):=(ou ap E);obtain⟨O,a⟩:=zg a;refine z0d (i:=0) (X:=s) (Y:=([c]:List Int)) rfl underlying71 zk0 rfl rfl rfl (H.mono (w.trans z)) (jr (Sub.v (B:=(tSl false (zm .u64))) (j5 Sub.refl (fun _=>rfl)) aq)) O.1 O.2 fun P ar au=>?_
 refine zl P (ze (zu ?_));obtain⟨av,a⟩:=zg a;refine zz (qm rfl rfl av) (zh (vi (l+1)) (ze ?_));exact⟨dkt,(w.trans z),jg,(q,(s++([c]:List Int)),l+1,P,ar),Nat.lt_succ_self _,⟨rfl,rfl,trivial⟩,prm,a,au,trivial⟩;refine jb ?_
 exact⟨dkt,(k.trans e),jg,(s,G,C),⟨rfl,trivial⟩,prm,(Option.some.inj a).symm,H,trivial⟩;rintro⟨W,Z,aw⟩ a1 R7 ay ⟨rfl,az,_⟩;refine zq (zh Z ?_);obtain⟨a2,aA,d⟩:=zt d
 refine xx (Oc:=[aw]) (Or:=[]++A) (cs:=[]) (vs:=[Z]) rfl zlp rfl rfl ((pk 0 rfl (List.Perm.refl _))) (z8j az aA) fun a3 a4 aG Q aB=>?_;obtain⟨aC,rfl,rfl,aD⟩:=aB;refine qw (zh Z ?_);obtain⟨a5,aE,d⟩:=zt d
 refine xx (Oc:=[aC]) (Or:=[]++A) (cs:=[]) (vs:=[Z]) rfl zlx rfl rfl ((pk 0 rfl (List.Perm.refl _))) (z6w aD aE) fun S a6 aH U aF=>?_;obtain⟨_,rfl,rfl,V⟩:=aF;refine zl S (ze (qd ?_));obtain rfl:=Option.some.inj d
 refine qc (D:=[]) (J:=[]) (rs:=[.tmp 2]) (vs:=[S]) (((j.trans ay).trans Q).trans U) rfl rfl ⟨rfl,trivial⟩ ?_;exact⟨rfl,V⟩
theorem zm0:Enters prog 40:=enters_of func40 rfl (by kernel_rfl)
theorem zly: ∀ w,∃ z,(zeroValue 71).run prog w= .ok z w∧z.cells=([.slice none 0 0]:List Value).toArray:=fun w=>⟨vs0,by kernel_rfl,rfl⟩
theorem zlj: ∀ w,(sizeOf 71).run prog w= .ok 1 w:=fun w=>by kernel_rfl
theorem zm3: ∀ w,∃ z,(zeroValue 73).run prog w= .ok z w∧z.cells=([.nilFunc]:List Value).toArray:=fun w=>⟨.nilFunc,by kernel_rfl,rfl⟩
theorem zll: ∀ w,(sizeOf 73).run prog w= .ok 1 w:=fun w=>by kernel_rfl
theorem zlu: ∀ w,(isAgg 73).run prog w= .ok false w:=fun w=>by kernel_rfl
theorem z5z{N:Nat}{R:RH}{s:(List Int)}{c:Value}(k:VRep (tSl false (zm .u64)) R c s){f:Int→Option Bool}{e:Value}(n:FOk1 prog R e (zm .u64) z2r f){r:Int}(b:z0b N s f=some r):CallP prog 55 #[c,e] R (fun v R'=>v=(vi r)):=by
 refine qi (args:=[c,e]) func55 rfl rfl fun A=>?_;rw [z0b] at b;refine zq (zl (vi 0) (ze ?_));obtain⟨o,a,b⟩:=zt b;refine ql (γ:=Unit) (rs [4,19]) (fun g=>[]) (fun g=>[]++A) (fun g R=>o=Ex.go g∧True) ?_ ?_
 refine zq (zh c (zz (qo rfl underlying71 rfl (jr k)) (zh (vi 0) (ze (qa (j4 (γ:=Nat×Int) (rs [4,6,8,19]) (fun g=>[(8,(vi g.2))]) (fun g=>[]++A) (fun g R=>ww N s f g.1 g.2=some o∧True) (fun g=>g.1) (N,0) prm ⟨a,trivial⟩ ?_))))));clear a;rintro⟨m,d⟩ y H h ⟨a,_⟩;rcases m with _|m
 exact qj a;replace a:ww N s f (m+1) d=some o:=a;rw [ww] at a;refine zq (zz (jc rfl rfl) (ze (zw (q8 rfl a (fun a=>?_) (fun a=>?_)))));refine qb (zw (qa (zq (zh (vi d) (zl (vi d) (qw (zh e (zh c (zh (vi d) ?_)))))))))
 obtain⟨l,a⟩:=zg a;refine ug (i:=d.toNat) rfl yn rfl (jr (k.mono h)) (zk rfl l.1) (zy l) fun z p=>?_;refine ji rfl yg rfl p fun B q=>?_;obtain rfl:=q9.1 q;obtain⟨C,t,a⟩:=zt a;refine z6c rfl rfl rfl ((n.mono h) _ (RH.le.refl _) (ix s d) _ _ (q9.2 rfl) t) fun E F j u=>?_
 obtain rfl:=ai.1 u;refine ze (q8 rfl a (fun a=>?_) (fun a=>?_));refine zq (zh (vi d) (zl (vi d) (ze (qd ?_))));replace b:=lm a b;obtain rfl:=Option.some.inj b;refine qc (D:=[]) (J:=[]) (rs:=[.tmp 4]) (vs:=[(vi d)]) (h.trans j) rfl rfl ⟨rfl,trivial⟩ ?_;exact⟨rfl,rfl⟩
 refine qb (zu ?_);obtain⟨w,a⟩:=zg a;refine zz (qm rfl rfl w) (zh (vi (d+1)) (ze ?_));exact⟨dkt,j,jg,(m,d+1),Nat.lt_succ_self _,⟨rfl,trivial⟩,prm,a,trivial⟩;refine jb ?_;exact⟨dkt,h,jg,(),trivial,prm,(Option.some.inj a).symm,trivial⟩;rintro I G K x ⟨rfl,_⟩;replace b:=z0o b
 refine zq (zl (vi (-1)) (ze (qd ?_)));obtain rfl:=Option.some.inj b;refine qc (D:=[]) (J:=[]) (rs:=[.tmp 4]) (vs:=[(vi (-1))]) x rfl rfl ⟨rfl,trivial⟩ ?_;exact⟨rfl,rfl⟩
theorem zmq:Enters prog 55:=enters_of func55 rfl (by kernel_rfl)
theorem z4n{N:Nat}{R:RH}{s:(List Int)}{a:Value}(d:VRep (tSl false (zm .u64)) R a s){f:Int→Option Bool}{b:Value}(e:FOk1 prog R b (zm .u64) z2r f){r:Bool}(c:o8 N s f=some r):CallP prog 42 #[a,b] R (fun v R'=>v=(.bool r)):=by
 refine qi (args:=[a,b]) func42 rfl rfl fun A=>?_;rw [o8] at c;refine zq (zl (.bool false) (qw (zh a (zh b ?_))));obtain⟨h,i,c⟩:=zt c;refine qz rfl zmq rfl (z5z d e i) fun k l g j=>?_;obtain rfl:=j
 refine zz (mr rfl rfl) (zl (.bool (decide (0≤h))) (ze (qd ?_)));obtain rfl:=Option.some.inj c;refine qc (D:=[]) (J:=[]) (rs:=[.tmp 4]) (vs:=[(.bool (decide (0≤h)))]) g rfl rfl ⟨rfl,trivial⟩ ?_;exact⟨rfl,rfl⟩
theorem zmu{a:Bool}:TyOk prog 71 (tSl a (zm .u64)):=by
 obtain⟨i,hi,b⟩: ∃ i,prog.info? 71=some i∧i.size=1:=tq (by kernel_rfl);exact z1u underlying71 hi rfl b
theorem zmr:Enters prog 42:=enters_of func42 rfl (by kernel_rfl)
theorem z7r{N:Nat}{R:RH}{set:Int}{p0_:Int}{a:Value}(c:PRep (zm .u64) R a p0_){r:Bool}(b:dz N set p0_=some r):CallP prog 43 #[(.int .u64 set),a] R (fun v R'=>v=(.bool r)):=by
 refine qi (args:=[(.int .u64 set),a]) func43 rfl rfl fun A=>?_;rw [dz] at b;refine zq (zl (.bool false) (qw (zh (.int .u64 set) (ji rfl yg rfl c fun f d=>?_))));obtain rfl:=q9.1 d;obtain⟨e,b⟩:=zg b
 refine zz (zb2 rfl rfl e) (zz (pu rfl rfl) (zl (.bool (decide ((z6l set p0_)=0))) (ze (qd ?_))));obtain rfl:=Option.some.inj b;refine qc (D:=[]) (J:=[]) (rs:=[.tmp 3]) (vs:=[(.bool (decide ((z6l set p0_)=0)))]) (RH.le.refl _) rfl rfl ⟨rfl,trivial⟩ ?_;exact⟨rfl,rfl⟩
theorem zlq:Enters prog 43:=enters_of func43 rfl (by kernel_rfl)
theorem zkg{u:Value}:TyOk prog 73 (ziu u):=by
 obtain⟨i,hi,a⟩: ∃ i,prog.info? 73=some i∧i.size=1:=tq (by kernel_rfl);exact z1u underlying73 hi rfl a
theorem zkh:Enters prog 41:=enters_of func41 rfl (by kernel_rfl)
theorem z6g{N:Nat}(F:Nat): ∀ {R:RH} {b:Int} {j:Int} {left:Int} {p0_:(List Int)} {e:Value} (s:PRep (tSl false (zm .u64)) R e p0_) {p1_:Int} {k:Value} (t:PRep (zm .i64) R k p1_) {f:Nat} (u:PRep (ziu (.func (.func 41) #[] #[e,k,(.pointer (some ⟨f,0,none⟩))])) R (.pointer (some ⟨f,0,none⟩)) ()) {r:Int×Bool} (d:xq N F b j left p0_ p1_=some r),CallP prog 41 #[(.int .u64 b),(vi j),(vi left),e,k,(.pointer (some ⟨f,0,none⟩))] R (fun v R'=>v= .tuple #[(.int .u64 r.1),(.bool r.2)]):=by
  induction F with
  |zero=>intros;rename_i d;exact qj d
  |succ F ih=>
    intro R b j left p0_ e s p1_ k t f u r d
    refine qi (args:=[(.int .u64 b),(vi j),(vi left),e,k,(.pointer (some ⟨f,0,none⟩))]) func41 rfl rfl fun A=>?_
    rw [xq] at d
    refine zw ?_
    refine zu ?_
    refine z94 (T:=(zm .u64)) rfl rfl (q9.2 rfl) fun z R3 q P=>?_
    refine zl (.int .u64 0) ?_
    refine zl (.bool false) ?_
    refine ze ?_
    refine zw ?_
    refine zw ?_
    refine zu ?_
    refine zh (vi left) ?_
    refine zz (pu rfl rfl) ?_
    refine ze ?_
    refine q8 rfl d (fun d=>?_) (fun d=>?_)
    · refine zw ?_
      obtain⟨O,c7,d⟩:=zt d
      refine bu 7 [] [phX (.int .u64 b),phR (tSl false (zm .u64)) p0_,phX (.func (.func 43) #[] #[z]),phX (.bool O),phX (.bool (!O)),phX (.int .u64 b),phX (.bool (!O))] mixed (by kernel_rfl) (xu ⟨za,z01,za,za,za,za,za,trivial⟩) ⟨?_,?_,?_,?_,?_,?_,?_,trivial⟩ fun R8 Q=>?_
      · intro l S a m C
        have I:l 6=z:=m 6 rfl
        exact zi rfl rfl rfl (j3 (il yg I (P.mono a)) (fun _ _ h=>q9.1 h))
      · intro l U a m C
        have a3:l 3=e:=m 3 rfl
        exact zi rfl rfl rfl (il zmu a3 ((s.mono q).mono a))
      · intro l V a m C
        have I:l 6=z:=m 6 rfl
        exact zi rfl rfl rfl (zf (ax (fs:=[]) (cs:=[z]) rfl (by simp only [List.map,ev,I]<;>rfl)))
      · rintro l W a m ⟨n,w,_⟩
        have X:=n rfl
        have Y:l 18=(.func (.func 43) #[] #[z]):=w rfl
        exact zi rfl rfl rfl (kw (vs:=[(l 17),(.func (.func 43) #[] #[z])]) zmr (by simp only [List.map,ev,Y]<;>rfl) (z4n X ((z90 (cs:=[z]) zlq fun R1 hq z0 u0 y k0 hy=>by obtain rfl:=q9.1 k0;exact CallP.mono (z7r (P.mono hq) hy) fun v R2 _ hv=>ai.2 hv).mono a) c7) (fun _ _ h=>h))
      · rintro l Z a m ⟨n,w,_⟩
        have aa:=n rfl
        exact zi rfl rfl rfl (zf (ow aa))
      · rintro l ab a m ⟨n,w,K,L,d4,d5,d6,_⟩
        have af:=n rfl
        exact zi rfl rfl rfl (zf (mh af))
      · rintro l ag a m ⟨n,w,K,L,d4,d5,d6,d7,_⟩
        have aj:=n rfl
        exact zi rfl rfl rfl (zf (mh aj))
      intro bp ak
      intro bq br
      intro bs al
      intro bt am
      intro bv an
      intro bw ao
      intro bx ap
      obtain rfl:=Eq.symm ak
      obtain rfl:=Eq.symm al
      obtain rfl:=Eq.symm am
      obtain rfl:=Eq.symm an
      obtain rfl:=Eq.symm ao
      obtain rfl:=Eq.symm ap
      refine ze ?_
      refine qd ?_
      obtain rfl:=Option.some.inj d
      refine qc (D:=[]) (J:=[]) (rs:=[.tmp 9,.tmp 10]) (vs:=[(.int .u64 b),(.bool (!O))]) (q.trans Q) rfl rfl ⟨rfl,rfl,trivial⟩ ?_
      exact⟨rfl,rfl⟩
    · refine qb ?_
      obtain⟨E,c,d⟩:=zt d
      refine ql (γ:=Unit) (rs [9,14,21,44]) (fun g=>[]) (fun g=>[]++A) (fun g R=>E=Ex.go g∧True) ?_ ?_
      · refine zw ?_
        refine zu ?_
        refine zh (vi j) ?_
        refine zl (vi j) ?_
        refine ze ?_
        refine qa ?_
        refine j4 (γ:=Nat×Int) (rs [9,14,22,44]) (fun g=>[(11,(vi g.2))]) (fun g=>[]++A) (fun g R=>mi N (xq N F) b left p0_ p1_ g.1 g.2=some E∧True) (fun g=>g.1) (N,j) prm ⟨c,trivial⟩ ?_
        clear c
        rintro⟨x,i⟩ bz bA o ⟨c,_⟩
        rcases x with _|x
        · exact qj c
        replace c:mi N (xq N F) b left p0_ p1_ (x+1) i=some E:=c;rw [mi] at c
        refine zw ?_
        refine zw ?_
        refine zu ?_
        refine zh (vi i) ?_
        refine ji rfl ty3 rfl (t.mono (q.trans o)) fun bB aq=>?_
        obtain rfl:=q9.1 aq
        refine zh (vi left) ?_
        obtain⟨ar,c⟩:=zg c
        refine zz (kz rfl rfl ar) ?_
        refine zz (z3m rfl rfl) ?_
        refine ze ?_
        refine q8 rfl c (fun c=>?_) (fun c=>?_)
        · refine qb ?_
          refine zw ?_
          refine qa ?_
          refine zw ?_
          obtain⟨au,av,aw,ay,c⟩:=zi1 c
          obtain⟨p,az,c⟩:=zt c
          refine bu 15 [] [phX (.func (.func 41) #[] #[e,k,(.pointer (some ⟨f,0,none⟩))]),phX (.int .u64 b),phX (vi i),phX (.int .u64 (ah .u64 (1:Int) i)),phX (.int .u64 (ior b (ah .u64 (1:Int) i))),phX (vi i),phX (vi (i+1)),phX (vi left),phX (vi (left-1)),phX (.tuple #[(.int .u64 p.1),(.bool p.2)]),phX (.tuple #[(.int .u64 p.1),(.bool p.2)]),phX (.int .u64 p.1),phX (.bool p.2),phX (.int .u64 p.1),phX (.bool p.2)] mixed (by kernel_rfl) (xu ⟨za,za,za,za,za,za,za,za,za,za,za,za,za,za,za,trivial⟩) ⟨?_,?_,?_,?_,?_,?_,?_,?_,?_,?_,?_,?_,?_,?_,?_,trivial⟩ fun bC B=>?_
          · intro l S a m C
            have a5:l 5=(.pointer (some ⟨f,0,none⟩)):=m 5 rfl
            exact zi rfl rfl rfl (j3 (il zkg a5 ((u.mono (q.trans o)).mono a)) (fun _ _ h=>zi9 h))
          · intro l U a m C
            have I:l 6=z:=m 6 rfl
            exact zi rfl rfl rfl (j3 (il yg I ((P.mono o).mono a)) (fun _ _ h=>q9.1 h))
          · intro l V a m C
            have G:l 11=(vi i):=m 11 rfl
            exact zi rfl rfl rfl (zf (zb G))
          · rintro l W a m ⟨n,_⟩
            have aA:=n rfl
            exact zi rfl rfl rfl (zf (z9d rfl aA au))
          · rintro l Z a m ⟨n,w,_⟩
            have aB:=n rfl
            have aC:=w rfl
            exact zi rfl rfl rfl (zf (zff aB aC av))
          · intro l ab a m C
            have G:l 11=(vi i):=m 11 rfl
            exact zi rfl rfl rfl (zf (zb G))
          · rintro l ag a m ⟨n,_⟩
            have aD:=n rfl
            exact zi rfl rfl rfl (zf (qm aD rfl aw))
          · intro l bE a m C
            have a2:l 2=(vi left):=m 2 rfl
            exact zi rfl rfl rfl (zf (zb a2))
          · rintro l bG a m ⟨n,_⟩
            have aE:=n rfl
            exact zi rfl rfl rfl (zf (kz aE rfl ay))
          · rintro l bH a m ⟨n,w,K,L,_⟩
            have aF:=n rfl
            have aG:l 34=(.int .u64 (ior b (ah .u64 (1:Int) i))):=w rfl
            have aH:l 36=(vi (i+1)):=K rfl
            have aI:l 38=(vi (left-1)):=L rfl
            exact zi rfl rfl rfl (zhk (cs:=[e,k,(.pointer (some ⟨f,0,none⟩))]) (vs:=[(.int .u64 (ior b (ah .u64 (1:Int) i))),(vi (i+1)),(vi (left-1))]) zkh aF (by simp only [List.map,ev,aG,aH,aI]<;>rfl) (ih ((s.mono (q.trans o)).mono a) ((t.mono (q.trans o)).mono a) ((u.mono (q.trans o)).mono a) az) (fun _ _ h=>h))
          · rintro l be a m ⟨n,_⟩
            have aJ:=n rfl
            exact zi rfl rfl rfl (zf (zb aJ))
          · rintro l bf a m ⟨n,_⟩
            have H:=n rfl
            have ht:=H
            exact zi rfl rfl rfl (zf (qg ht rfl))
          · rintro l bg a m ⟨n,w,_⟩
            have H:=n rfl
            have ht:=H
            exact zi rfl rfl rfl (zf (qg ht rfl))
          · rintro l bh a m ⟨n,w,K,L,d4,d5,d6,d7,d8,d9,aL,aM,aN,aO,aP,_⟩
            have aQ:=n rfl
            exact zi rfl rfl rfl (zf (mh aQ))
          · rintro l bi a m ⟨n,w,K,L,d4,d5,d6,d7,d8,d9,aL,aM,aN,aO,aP,bK,_⟩
            have aR:=n rfl
            exact zi rfl rfl rfl (zf (mh aR))
          intro bL aS
          intro bM aT
          intro bN aU
          intro bO aV
          intro bP aW
          intro bQ aX
          intro bR aY
          intro bS aZ
          intro bT a0
          intro bU a1
          intro bV a4
          intro bW a7
          intro bX a8
          intro bY a9
          intro bZ ba
          obtain rfl:=Eq.symm aS
          obtain rfl:=Eq.symm aT
          obtain rfl:=Eq.symm aU
          obtain rfl:=Eq.symm aV
          obtain rfl:=Eq.symm aW
          obtain rfl:=Eq.symm aX
          obtain rfl:=Eq.symm aY
          obtain rfl:=Eq.symm aZ
          obtain rfl:=Eq.symm a0
          obtain rfl:=Eq.symm a1
          obtain rfl:=Eq.symm a4
          obtain rfl:=Eq.symm a7
          obtain rfl:=Eq.symm a8
          obtain rfl:=Eq.symm a9
          obtain rfl:=Eq.symm ba
          refine ze ?_
          refine zw ?_
          refine zu ?_
          refine zh (.bool p.2) ?_
          refine ze ?_
          refine q8 rfl c (fun c=>?_) (fun c=>?_)
          · refine zw ?_
            refine zu ?_
            refine zh (.int .u64 p.1) ?_
            refine zl (.int .u64 p.1) ?_
            refine zl (.bool true) ?_
            refine ze ?_
            refine qd ?_
            replace d:=lm c d
            obtain rfl:=Option.some.inj d
            refine qc (D:=[]) (J:=[]) (rs:=[.tmp 9,.tmp 10]) (vs:=[(.int .u64 p.1),(.bool true)]) ((q.trans o).trans B) rfl rfl ⟨rfl,rfl,trivial⟩ ?_
            exact⟨rfl,rfl⟩
          · refine qb ?_
            refine zu ?_
            refine zh (vi i) ?_
            obtain⟨bb,c⟩:=zg c
            refine zz (qm rfl rfl bb) ?_
            refine zl (vi (i+1)) ?_
            refine ze ?_
            exact⟨dkt,B,jg,(x,i+1),Nat.lt_succ_self _,⟨rfl,trivial⟩,prm,c,trivial⟩
        · refine jb ?_
          exact⟨dkt,o,jg,(),trivial,prm,(Option.some.inj c).symm,trivial⟩
      · rintro b0 b1 b2 M ⟨rfl,_⟩
        replace d:=z0o d
        refine zw ?_
        refine zu ?_
        refine zl (.int .u64 0) ?_
        refine zl (.bool false) ?_
        refine ze ?_
        refine qd ?_
        obtain rfl:=Option.some.inj d
        refine qc (D:=[]) (J:=[]) (rs:=[.tmp 9,.tmp 10]) (vs:=[(.int .u64 0),(.bool false)]) (q.trans M) rfl rfl ⟨rfl,rfl,trivial⟩ ?_
        exact⟨rfl,rfl⟩
theorem z8k{N:Nat}{R:RH}{d:Int}{e:Int}{left:Int}{p0_:(List Int)}{a:Value}(f:PRep (tSl false (zm .u64)) R a p0_){p1_:Int}{b:Value}(g:PRep (zm .i64) R b p1_){c:Nat}(h:PRep (ziu (.func (.func 41) #[] #[a,b,(.pointer (some ⟨c,0,none⟩))])) R (.pointer (some ⟨c,0,none⟩)) ()){r:Int×Bool}(i:xq N N d e left p0_ p1_=some r):CallP prog 41 #[(.int .u64 d),(vi e),(vi left),a,b,(.pointer (some ⟨c,0,none⟩))] R (fun v R'=>v= .tuple #[(.int .u64 r.1),(.bool r.2)]):=z6g N f g h i
theorem z0m{N:Nat}{R:RH}{x:Sa}{H:Value}(p:VRep (zn false false) R H x){r:(List Int)×Int}(b:xw N x=some r):CallP prog 20 #[H] R (fun v R'=> ∃ u0,v= .tuple #[u0,(vi r.2)]∧VRep (tSl true (zm .i64)) R' u0 r.1):=by
 refine qi (args:=[H]) func20 rfl rfl fun A=>?_;rw [xw] at b;refine zq (bg (T:=(zn false false)) rfl rfl rfl p fun v1 R3 h h5 h2=>?_);refine zl vs0 (zl (vi 0) (ze (zw (zq (zz (uf z2e rfl rfl h5 (p.mono h)) ?_)))));obtain⟨U,c7,b⟩:=zt b
 refine qz rfl za9 rfl (yu (p.mono h) c7) fun v8 aR d h9=>?_;obtain rfl:=h9;refine zl (vi U) (qw (zh (vi U) (zz (jd rfl rfl) (ze (q8 rfl b (fun b=>?_) (fun b=>?_))))));refine zq (zh (vi U) (zl vs0 (zl (vi U) (ze (qd ?_)))));obtain rfl:=Option.some.inj b
 refine qc (D:=[]) (J:=[]) (rs:=[.tmp 2,.tmp 3]) (vs:=[vs0,(vi U)]) (h.trans d) rfl rfl ⟨rfl,rfl,trivial⟩ ?_;exact⟨rfl,⟨vs0,rfl,z0j⟩⟩;refine qb (zq (zz (uf z2e rfl rfl (h5.mono d) (p.mono (h.trans d))) ?_));obtain⟨m,ao,b⟩:=zt b
 refine qz rfl zhe rfl (ma (p.mono (h.trans d)) ao) fun aT aU l ap=>?_;obtain rfl:=ap;refine bn rfl za3 fun j=>?_;refine wz (i:=0) (vs:=[(vi m)]) sz3 rfl rfl rfl rfl rfl rfl (jm rfl xh) ?_
 refine ze (zw (zq (zz (uw (i:=0) ag3 rfl rfl rfl) (zz (oz rfl rfl) (ze (q8 rfl b (fun b=>?_) (fun b=>?_)))))));refine zq (zl vs0 (zl (vi 3) (ze (qd ?_))));obtain rfl:=Option.some.inj b
 refine qc (D:=[]) (J:=[box j [(vi m)] 3]) (rs:=[.tmp 2,.tmp 3]) (vs:=[vs0,(vi 3)]) ((h.trans d).trans l) rfl rfl ⟨rfl,rfl,trivial⟩ ?_;exact⟨rfl,⟨vs0,rfl,z0j⟩⟩;refine qb (zq (zz (uf z2e rfl rfl (h5.mono (d.trans l)) (p.mono ((h.trans d).trans l))) ?_))
 obtain⟨V,aq,b⟩:=zt b;refine qz rfl zm0 rfl (z5x (p.mono ((h.trans d).trans l)) aq) fun z aV F I=>?_;refine bn rfl zly fun n=>?_;refine wz (i:=0) (vs:=[z]) zlj rfl rfl (ky I) rfl rfl rfl (jm (z8v I) xh) ?_;refine qw (bn rfl zm3 fun o=>?_)
 refine qw (zz (ax (fs:=[]) (cs:=[(.pointer (some ⟨n,0,none⟩)),(.pointer (some ⟨j,0,none⟩)),(.pointer (some ⟨o,0,none⟩))]) rfl rfl) (wz (i:=0) (vs:=[(.func (.func 41) #[] #[(.pointer (some ⟨n,0,none⟩)),(.pointer (some ⟨j,0,none⟩)),(.pointer (some ⟨o,0,none⟩))])]) zll rfl rfl rfl rfl rfl rfl (jm rfl xh) ?_));refine ze ?_
 obtain⟨K,a,b⟩:=zt b;refine ql (γ:=Unit) (rs [2,4,8,13,25,54]) (fun g=>[]) (fun g=>[]++A) (fun g R=>K=Ex.go g∧True) ?_ ?_;refine zq (zz (uw (i:=2) ag3 rfl rfl rfl) ?_);obtain⟨ar,a⟩:=zg a
 refine zz (qm rfl rfl ar) (zh (vi 0) (ze (qa (j4 (γ:=Nat×Int) (rs [2,4,8,13,27,54]) (fun g=>[(27,(vi g.2))]) (fun g=>[box j [(vi m)] 3,box o [(.func (.func 41) #[] #[(.pointer (some ⟨n,0,none⟩)),(.pointer (some ⟨j,0,none⟩)),(.pointer (some ⟨o,0,none⟩))])] 73,box n [z] 71]++A) (fun g R=>dm N m V g.1 g.2=some K∧True) (fun g=>g.1) (N,0) ⟨[],(pk 2 rfl (pk 0 rfl (pk 0 rfl (List.Perm.refl _))))⟩ ⟨a,trivial⟩ ?_))))
 clear a;rintro⟨C,q⟩ aM aW s ⟨a,_⟩;rcases C with _|C;exact qj a;replace a:dm N m V (C+1) q=some K:=a;rw [dm] at a;refine zq (zz (jc rfl rfl) (ze (zw (q8 rfl a (fun a=>?_) (fun a=>?_)))))
 refine qb (zw (qa (zq (zh (vi q) (zl (vi q) (qw (zz (uw (i:=1) zlu rfl rfl rfl) (zh (vi q) ?_))))))));obtain⟨k,au,a⟩:=zt a
 refine z4g (cs:=[(.pointer (some ⟨n,0,none⟩)),(.pointer (some ⟨j,0,none⟩)),(.pointer (some ⟨o,0,none⟩))]) (vs:=[(.int .u64 0),(vi 0),(vi q)]) (φ:=fun v=>v= .tuple #[(.int .u64 k.1),(.bool k.2)]) rfl zkh rfl rfl (fun aX W t=>z8k (z7o (zd5 2 rfl t) (qy (T:=(tSl false (zm .u64))) rfl ((I.mono s).mono W))) (z7o (zd5 0 rfl t) rfl) (z7o (zd5 1 rfl t) ⟨rfl,rfl⟩) au) fun aY av=>?_
 obtain rfl:=av;refine zh (.tuple #[(.int .u64 k.1),(.bool k.2)]) (zz (qg rfl rfl) (zz (qg rfl rfl) (zl (.int .u64 k.1) (zl (.bool k.2) (qw (zh (.bool k.2) (ze (q8 rfl a (fun a=>?_) (fun a=>?_)))))))));refine zq (zl vs0 (ze ?_));obtain⟨u,c,a⟩:=zt a
 refine ql (γ:=(List Int)×Value×Frag) (rs [11,13,37,51]) (fun g=>[(11,g.2.1)]) (fun g=>[g.2.2]++A) (fun g R=>u=g.1∧ORep (zm .i64) R g.2.2 g.2.1 g.1∧True) ?_ ?_;refine zq (zz (uw (i:=0) ag3 rfl rfl rfl) (zh (vi 0) (ze (qa (z5p ?_)))))
 refine j4 (γ:=Nat×(List Int)×Int×Value×Frag) (rs [11,13,38,51]) (fun g=>[(11,g.2.2.2.1),(38,(vi g.2.2.1))]) (fun g=>[g.2.2.2.2]++A) (fun g R=>l6 N m k g.1 g.2.1 g.2.2.1=some u∧ORep (zm .i64) R g.2.2.2.2 g.2.2.2.1 g.2.1∧True) (fun g=>g.1) (N,[],0,vs0,emp) ⟨[box j [(vi m)] 3,box o [(.func (.func 41) #[] #[(.pointer (some ⟨n,0,none⟩)),(.pointer (some ⟨j,0,none⟩)),(.pointer (some ⟨o,0,none⟩))])] 73,box n [z] 71],(pk 1 rfl (pk 1 rfl (pk 1 rfl (pk 0 rfl (List.Perm.refl _)))))⟩ ⟨c,(z1p (T:=(zm .i64))),trivial⟩ ?_
 clear c;rintro⟨E,w,e,L,Z⟩ aZ a0 aa ⟨c,M,_⟩;rcases E with _|E;exact qj c;replace c:l6 N m k (E+1) w e=some u:=c;rw [l6] at c;refine zq (zz (jc rfl rfl) (ze (zw (q8 rfl c (fun c=>?_) (fun c=>?_)))));refine qb ?_;obtain⟨O,f,c⟩:=zt c
 refine ql (γ:=(List Int)×Value×Frag) (rs [11,13,40,50]) (fun g=>[(11,g.2.1)]) (fun g=>[g.2.2]++A) (fun g R=>O=g.1∧ORep (zm .i64) R g.2.2 g.2.1 g.1∧True) ?_ ?_;refine qa (zq (zh (vi e) (zl (vi e) (qw (zh (.int .u64 k.1) (zh (vi e) ?_))))));obtain⟨aw,f⟩:=zg f;refine zz (z9b rfl rfl aw) ?_
 obtain⟨ay,f⟩:=zg f;refine zz (zb2 rfl rfl ay) (zz (pu rfl rfl) (ze (q8 rfl f (fun f=>?_) (fun f=>?_))))
 refine zu (zh L (zh (vi e) (vg (T:=(zm .i64)) (X:=([e]:List Int)) (ps:=[(0,(vi e))]) (css:=[[(vi e)]]) rfl underlying33 zo3 rfl rfl (qx ⟨rfl,trivial⟩) rfl rfl (by decide) fun az a1 P aA=>?_)));refine jf (i:=0) rfl aA fun aB G aC=>?_
 have aD:VRep (tSl true (zm .i64)) aB az ([e]:List Int):=(ou aC P);obtain⟨ab,f⟩:=zg f;refine z0d (i:=0) (X:=w) (Y:=([e]:List Int)) rfl underlying33 zo3 rfl rfl rfl (M.mono G) (jr (Sub.v (B:=(tSl false (zm .i64))) (j5 Sub.refl (fun _=>rfl)) aD)) ab.1 ab.2 fun ac aE aF=>?_;refine zl ac (ze ?_)
 exact⟨dkt,G,jg,((w++([e]:List Int)),ac,aE),⟨rfl,trivial⟩,prm,(Option.some.inj f).symm,aF,trivial⟩;refine qb ?_;exact⟨dkt,(RH.le.refl _),jg,(w,L,Z),⟨rfl,trivial⟩,prm,(Option.some.inj f).symm,M,trivial⟩;rintro⟨O,aG,aH⟩ a2 a3 ad ⟨rfl,aI,_⟩;refine zu ?_;obtain⟨aJ,c⟩:=zg c
 refine zz (qm rfl rfl aJ) (zh (vi (e+1)) (ze ?_));exact⟨dkt,ad,jg,(E,O,e+1,aG,aH),Nat.lt_succ_self _,⟨rfl,rfl,trivial⟩,prm,c,aI,trivial⟩;refine jb ?_;exact⟨dkt,aa,jg,(w,L,Z),⟨rfl,trivial⟩,prm,(Option.some.inj c).symm,M,trivial⟩;rintro⟨u,ae,a4⟩ a5 a6 af ⟨rfl,aK,_⟩
 refine zq (zh ae (jf (i:=0) rfl aK fun ag Q ah=>?_));have ai:VRep (tSl false (zm .i64)) ag ae u:=(z6j ah);obtain⟨aN,aj,a⟩:=zt a;refine qz rfl zk1 rfl (z5f ai aj) fun y aO S ak=>?_;refine zl y (zl (vi 0) (ze (qd ?_)));replace b:=lm a b
 obtain rfl:=Option.some.inj b;refine qc (D:=[]) (J:=[]) (rs:=[.tmp 2,.tmp 3]) (vs:=[y,(vi 0)]) (((((((h.trans d).trans l).trans F).trans s).trans af).trans Q).trans S) rfl rfl ⟨rfl,rfl,trivial⟩ ?_;exact⟨rfl,⟨y,rfl,ak⟩⟩;refine qb (zu ?_);obtain⟨al,a⟩:=zg a
 refine zz (qm rfl rfl al) (zh (vi (q+1)) (ze ?_));exact⟨dkt,(RH.le.refl _),jg,(C,q+1),Nat.lt_succ_self _,⟨rfl,trivial⟩,prm,a,trivial⟩;refine jb ?_
 exact⟨dkt,s,jg,(),trivial,⟨[box j [(vi m)] 3,box o [(.func (.func 41) #[] #[(.pointer (some ⟨n,0,none⟩)),(.pointer (some ⟨j,0,none⟩)),(.pointer (some ⟨o,0,none⟩))])] 73,box n [z] 71],(List.Perm.refl _)⟩,(Option.some.inj a).symm,trivial⟩;rintro a7 aP a8 am ⟨rfl,_⟩;replace b:=z0o b
 refine zq (zl vs0 (zl (vi 0) (ze (qd ?_))));obtain rfl:=Option.some.inj b;refine qc (D:=[]) (J:=[]) (rs:=[.tmp 2,.tmp 3]) (vs:=[vs0,(vi 0)]) ((((h.trans d).trans l).trans F).trans am) rfl rfl ⟨rfl,rfl,trivial⟩ ?_;exact⟨rfl,⟨vs0,rfl,z0j⟩⟩
theorem zho:Enters prog 20:=enters_of func20 rfl (by kernel_rfl)
theorem zkf: ∀ w,(sizeOf 25).run prog w= .ok 1 w:=fun w=>by kernel_rfl
theorem z6e{N:Nat}{R:RH}{a:(List Int)}{f:Value}(l:VRep (tSl false (zm .i64)) R f a){b:(List Int)}{j:Value}(m:VRep (tSl false (zm .i64)) R j b){r:Int}(d:z15 N a b=some r):CallP prog 63 #[f,j] R (fun v R'=>v=(vi r)):=by
 refine qi (args:=[f,j]) func63 rfl rfl fun A=>?_;rw [z15] at d;refine zq (zl (vi 0) (ze (zw (zq (zh f (zz (qo rfl underlying33 rfl (jr l)) (zh j (zz (qo rfl underlying33 rfl (jr m)) (zz (jd rfl rfl) (ze (q8 rfl d (fun d=>?_) (fun d=>?_))))))))))))
 refine zw (zq (zh f (zz (qo rfl underlying33 rfl (jr l)) (zh j (zz (qo rfl underlying33 rfl (jr m)) (zz (jc rfl rfl) (ze (q8 rfl d (fun d=>?_) (fun d=>?_)))))))));refine zq (zl (vi (-1)) (ze (qd ?_)));obtain rfl:=Option.some.inj d
 refine qc (D:=[]) (J:=[]) (rs:=[.tmp 4]) (vs:=[(vi (-1))]) (RH.le.refl _) rfl rfl ⟨rfl,trivial⟩ ?_;exact⟨rfl,rfl⟩;refine qb (zq (zl (vi 1) (ze (qd ?_))));obtain rfl:=Option.some.inj d;refine qc (D:=[]) (J:=[]) (rs:=[.tmp 4]) (vs:=[(vi 1)]) (RH.le.refl _) rfl rfl ⟨rfl,trivial⟩ ?_;exact⟨rfl,rfl⟩;refine qb ?_
 obtain⟨u,c,d⟩:=zt d;refine ql (γ:=Unit) (rs [4,6,16,40]) (fun g=>[]) (fun g=>[]++A) (fun g R=>u=Ex.go g∧True) ?_ ?_
 refine zq (zl (vi 0) (ze (qa (j4 (γ:=Nat×Int) (rs [4,6,16,40]) (fun g=>[(5,(vi g.2))]) (fun g=>[]++A) (fun g R=>oo N a b g.1 g.2=some u∧True) (fun g=>g.1) (N,0) prm ⟨c,trivial⟩ ?_))));clear c;rintro⟨t,k⟩ E O e ⟨c,_⟩;rcases t with _|t;exact qj c
 replace c:oo N a b (t+1) k=some u:=c;rw [oo] at c;refine zw (zq (zh (vi k) (zh f (zz (qo rfl underlying33 rfl (jr (l.mono e))) (zz (jc rfl rfl) (ze (q8 rfl c (fun c=>?_) (fun c=>?_))))))))
 refine qb (zw (qa (zw (zw (z5k 9 mixed (by kernel_rfl) (by kernel_rfl) ?_)))));refine oq (v:=f) (zb rfl) ?_;refine oq (v:=(vi k)) (zb rfl) ?_;obtain⟨o,c⟩:=zg c;refine zbx (z11 (i:=k.toNat) lc rfl (jr (l.mono e)) (zk rfl o.1) (zy o)) fun F w=>?_
 refine oq (z0r (nu ty3 rfl w)) ?_;refine oq (v:=j) (zb rfl) ?_;refine oq (v:=(vi k)) (zb rfl) ?_;obtain⟨p,c⟩:=zg c;refine zbx (z11 (i:=k.toNat) lc rfl (jr (m.mono e)) (zk rfl p.1) (zy p)) fun G x=>?_;refine oq (z0r (nu ty3 rfl x)) ?_;refine oq (jc rfl rfl) ?_;intro H h
 refine ze (q8 rfl c (fun c=>?_) (fun c=>?_));refine zq (zl (vi (-1)) (ze (qd ?_)));replace d:=lm c d;obtain rfl:=Option.some.inj d;refine qc (D:=[]) (J:=[]) (rs:=[.tmp 4]) (vs:=[(vi (-1))]) (e.trans h) rfl rfl ⟨rfl,trivial⟩ ?_;exact⟨rfl,rfl⟩
 refine qb (zw (z5k 9 mixed (by kernel_rfl) (by kernel_rfl) ?_));refine oq (v:=f) (zb rfl) ?_;refine oq (v:=(vi k)) (zb rfl) ?_;obtain⟨q,c⟩:=zg c;refine zbx (z11 (i:=k.toNat) lc rfl (jr (l.mono (e.trans h))) (zk rfl q.1) (zy q)) fun I y=>?_;refine oq (z0r (nu ty3 rfl y)) ?_
 refine oq (v:=j) (zb rfl) ?_;refine oq (v:=(vi k)) (zb rfl) ?_;obtain⟨s,c⟩:=zg c;refine zbx (z11 (i:=k.toNat) lc rfl (jr (m.mono (e.trans h))) (zk rfl s.1) (zy s)) fun K z=>?_;refine oq (z0r (nu ty3 rfl z)) ?_;refine oq (oz rfl rfl) ?_;intro L n
 refine ze (q8 rfl c (fun c=>?_) (fun c=>?_));refine zq (zl (vi 1) (ze (qd ?_)));replace d:=lm c d;obtain rfl:=Option.some.inj d;refine qc (D:=[]) (J:=[]) (rs:=[.tmp 4]) (vs:=[(vi 1)]) ((e.trans h).trans n) rfl rfl ⟨rfl,trivial⟩ ?_;exact⟨rfl,rfl⟩;refine qb (zu (zh (vi k) ?_))
 obtain⟨B,c⟩:=zg c;refine zz (qm rfl rfl B) (zl (vi (k+1)) (ze ?_));exact⟨dkt,(h.trans n),jg,(t,k+1),Nat.lt_succ_self _,⟨rfl,trivial⟩,prm,c,trivial⟩;refine jb ?_;exact⟨dkt,e,jg,(),trivial,prm,(Option.some.inj c).symm,trivial⟩;rintro P M Q C ⟨rfl,_⟩;replace d:=z0o d
 refine zq (zl (vi 0) (ze (qd ?_)));obtain rfl:=Option.some.inj d;refine qc (D:=[]) (J:=[]) (rs:=[.tmp 4]) (vs:=[(vi 0)]) C rfl rfl ⟨rfl,trivial⟩ ?_;exact⟨rfl,rfl⟩
theorem zmp:Enters prog 63:=enters_of func63 rfl (by kernel_rfl)
theorem z3v{N:Nat}{R:RH}{a:(List (List Int))}{f:Value}(q:VRep (tSl false (tSl false (zm .i64))) R f a){b:(List (List Int))}{m:Value}(s:VRep (tSl false (tSl false (zm .i64))) R m b){r:Bool}(d:z0s N a b=some r):CallP prog 47 #[f,m] R (fun v R'=>v=(.bool r)):=by
 refine qi (args:=[f,m]) func47 rfl rfl fun A=>?_;rw [z0s] at d;refine zq (zl (.bool false) (ze (zw (zq (zh f (zz (qo rfl underlying25 rfl (jr q)) (zh m (zz (qo rfl underlying25 rfl (jr s)) (zz (jd rfl rfl) (ze (q8 rfl d (fun d=>?_) (fun d=>?_))))))))))))
 refine zq (zl (.bool false) (ze (qd ?_)));obtain rfl:=Option.some.inj d;refine qc (D:=[]) (J:=[]) (rs:=[.tmp 4]) (vs:=[(.bool false)]) (RH.le.refl _) rfl rfl ⟨rfl,trivial⟩ ?_;exact⟨rfl,rfl⟩;refine qb ?_;obtain⟨z,c,d⟩:=zt d;refine ql (γ:=Unit) (rs [4,6,11,27]) (fun g=>[]) (fun g=>[]++A) (fun g R=>z=Ex.go g∧True) ?_ ?_
 refine zq (zl (vi 0) (ze (qa (j4 (γ:=Nat×Int) (rs [4,6,11,27]) (fun g=>[(5,(vi g.2))]) (fun g=>[]++A) (fun g R=>sw N a b g.1 g.2=some z∧True) (fun g=>g.1) (N,0) prm ⟨c,trivial⟩ ?_))));clear c;rintro⟨y,j⟩ O R8 n ⟨c,_⟩;rcases y with _|y;exact qj c
 replace c:sw N a b (y+1) j=some z:=c;rw [sw] at c;refine zw (zq (zh (vi j) (zh f (zz (qo rfl underlying25 rfl (jr (q.mono n))) (zz (jc rfl rfl) (ze (q8 rfl c (fun c=>?_) (fun c=>?_))))))));refine qb (zw (qa (zw ?_)));obtain⟨t,u,c⟩:=zi0 c;obtain⟨w,B,c⟩:=zt c
 refine bu 10 [] [phX f,phX (vi j),phP (tSl false (zm .i64)) (ix a j),phR (tSl false (zm .i64)) (ix a j),phX m,phX (vi j),phP (tSl false (zm .i64)) (ix b j),phR (tSl false (zm .i64)) (ix b j),phX (vi w),phX (.bool (decide (w≠0)))] mixed (by kernel_rfl) (xu ⟨za,za,z2v,z01,za,za,z2v,z01,za,za,trivial⟩) ⟨?_,?_,?_,?_,?_,?_,?_,?_,?_,?_,trivial⟩ fun P p=>?_
 intro l Q e k C;exact zi rfl rfl rfl (zf (zb (k 0 rfl)));intro l S e k C;exact zi rfl rfl rfl (zf (zb (k 5 rfl)));rintro l T e k ⟨o,x,_⟩;exact zi rfl rfl rfl (z2j (i:=j.toNat) z7n (o rfl) (jr ((q.mono n).mono e)) (zk (x rfl) t.1) (zy t));rintro l U e k ⟨o,_⟩
 exact zi rfl rfl rfl (il z6z rfl (o rfl));intro l V e k C;exact zi rfl rfl rfl (zf (zb (k 1 rfl)));intro l W e k C;exact zi rfl rfl rfl (zf (zb (k 5 rfl)));rintro l X e k ⟨o,x,_⟩
 exact zi rfl rfl rfl (z2j (i:=j.toNat) z7n (o rfl) (jr ((s.mono n).mono e)) (zk (x rfl) u.1) (zy u));rintro l Y e k ⟨o,_⟩;exact zi rfl rfl rfl (il z6z rfl (o rfl));rintro l Z e k ⟨o,x,_⟩
 exact zi rfl rfl rfl (kw (vs:=[(l 20),(l 24)]) zmp rfl (z6e (o rfl) (x rfl) B) (fun _ _ h=>h));rintro l aa e k ⟨o,_⟩;exact zi rfl rfl rfl (zf (jd (o rfl) rfl));intro ab E ac F ad ae af ag ah G ai H aj ak al am an I ao K;obtain rfl:=Eq.symm E;obtain rfl:=Eq.symm F;obtain rfl:=Eq.symm G
 obtain rfl:=Eq.symm H;obtain rfl:=Eq.symm I;obtain rfl:=Eq.symm K;refine ze (q8 rfl c (fun c=>?_) (fun c=>?_));refine zq (zl (.bool false) (ze (qd ?_)));replace d:=lm c d;obtain rfl:=Option.some.inj d;refine qc (D:=[]) (J:=[]) (rs:=[.tmp 4]) (vs:=[(.bool false)]) (n.trans p) rfl rfl ⟨rfl,trivial⟩ ?_;exact⟨rfl,rfl⟩
 refine qb (zu (zh (vi j) ?_));obtain⟨L,c⟩:=zg c;refine zz (qm rfl rfl L) (zl (vi (j+1)) (ze ?_));exact⟨dkt,p,jg,(y,j+1),Nat.lt_succ_self _,⟨rfl,trivial⟩,prm,c,trivial⟩;refine jb ?_;exact⟨dkt,n,jg,(),trivial,prm,(Option.some.inj c).symm,trivial⟩;rintro o2 ap R4 M ⟨rfl,_⟩
 replace d:=z0o d;refine zq (zl (.bool true) (ze (qd ?_)));obtain rfl:=Option.some.inj d;refine qc (D:=[]) (J:=[]) (rs:=[.tmp 4]) (vs:=[(.bool true)]) M rfl rfl ⟨rfl,trivial⟩ ?_;exact⟨rfl,rfl⟩
theorem zkk:Enters prog 47:=enters_of func47 rfl (by kernel_rfl)
theorem yt{N:Nat}{R:RH}{a:(List Int)}{c:Value}(i:VRep (tSl true (zm .i64)) R c a){b:(List Int)}{e:Value}(m:VRep (tSl false (zm .i64)) R e b){r:Bool}(j:u6 N a b=some r):CallP prog 23 #[c,e] R (fun v R'=>v=(.bool r)):=by
 refine qi (args:=[c,e]) func23 rfl rfl fun A=>?_;rw [u6] at j
 refine zq (zl (.bool false) (qw (jo (v:=c) rfl (zb rfl) (z1x (φ:=phR (tSl true (tSl true (zm .i64))) ([a]:List (List Int))) rfl (fw (T:=(tSl true (zm .i64))) (X:=([a]:List (List Int))) (ps:=[(0,c)]) (css:=[[c]]) underlying25 z4u rfl (by simp only [List.map_cons,List.map_nil,ky i];rfl) (qx ⟨(qy rfl i),trivial⟩) rfl rfl (by decide)) fun x O f y=>?_))))
 refine jo (v:=e) rfl (zb rfl) (z1x (φ:=phR (tSl true (tSl false (zm .i64))) ([b]:List (List Int))) rfl (fw (T:=(tSl false (zm .i64))) (X:=([b]:List (List Int))) (ps:=[(0,e)]) (css:=[[e]]) underlying25 z4u rfl (by simp only [List.map_cons,List.map_nil,ky (m.mono f)];rfl) (qx ⟨(qy rfl (m.mono f)),trivial⟩) rfl rfl (by decide)) fun z C d n=>?_)
 obtain⟨k,o,j⟩:=zt j;refine z1x (φ:=phX (.bool k)) rfl (kw (vs:=[x,z]) zkk rfl (z3v (Sub.v (B:=(tSl false (tSl false (zm .i64)))) (j5 (j5 Sub.refl (fun _=>rfl)) (fun _=>rfl)) (y.mono d)) (Sub.v (B:=(tSl false (tSl false (zm .i64)))) (j5 Sub.refl (fun _=>rfl)) n) o) (fun _ _ h=>h)) fun E F g p=>?_
 obtain rfl:=Eq.symm p;refine jo (v:=(.bool k)) rfl (zb rfl) (ja rfl rfl rfl rfl (fun l=>qp (v:=c) (zb rfl)) fun G q=>?_);refine ja rfl rfl rfl rfl (fun l=>qp (zh9 rfl underlying33 (q.1 (zo rfl l)) (i.mono ((f.trans d).trans g)))) fun H s=>?_
 refine ja rfl rfl rfl rfl (fun l=>qp (v:=c) (zb rfl)) fun I t=>?_;refine ja rfl rfl rfl rfl (fun l=>qp (qo rfl underlying33 (t.1 (zo rfl l)) (jr (i.mono ((f.trans d).trans g))))) fun K u=>?_;refine ja rfl rfl rfl rfl (fun l=>qp (pu (s.1 (zo rfl l)) (u.1 (zo rfl l)))) fun L w=>?_
 refine jo rfl (xg rfl (fun M=>(w.1 (zo rfl M))) rfl) (jo (v:=(.bool (k&&(decide ((↑a.length:Int)=(↑a.length:Int)))))) rfl (mh rfl) (ze (qd ?_)));obtain rfl:=Option.some.inj j
 refine qc (D:=[]) (J:=[]) (rs:=[.tmp 4]) (vs:=[(.bool (k&&(decide ((↑a.length:Int)=(↑a.length:Int)))))]) ((f.trans d).trans g) rfl rfl ⟨rfl,trivial⟩ ?_;exact⟨rfl,rfl⟩
theorem z7h{N:Nat}{R:RH}{a:Sa}{d:Value}(j:VRep (zn false false) R d a){b:Sa}{e:Value}(k:VRep (zn false false) R e b){r:Bool}(c:z1w N a b=some r):CallP prog 33 #[d,e] R (fun v R'=>v=(.bool r)):=by
 refine qi (args:=[d,e]) func33 rfl rfl fun A=>?_;rw [z1w] at c;refine zq (bg (T:=(zn false false)) rfl rfl rfl j fun E F f G s=>?_);refine bg (T:=(zn false false)) rfl rfl rfl (k.mono f) fun H I g t u=>?_
 refine zl (.bool false) (qw (si rfl lu ut rfl (s.mono g) fun w l=>?_));refine ji rfl zak rfl l fun x m=>?_;refine si rfl lu ut rfl u fun y n=>?_;refine ji rfl zak rfl n fun z o=>?_;obtain⟨h,p,c⟩:=zt c
 refine qz rfl zkk rfl (z3v m o p) fun B C i q=>?_;obtain rfl:=q;refine zl (.bool h) (ze (qd ?_));obtain rfl:=Option.some.inj c;refine qc (D:=[]) (J:=[]) (rs:=[.tmp 4]) (vs:=[(.bool h)]) ((f.trans g).trans i) rfl rfl ⟨rfl,trivial⟩ ?_;exact⟨rfl,rfl⟩
theorem zmc:Enters prog 33:=enters_of func33 rfl (by kernel_rfl)
theorem zo4:ZeroOk prog 4 z2r false 1:=by
 obtain⟨i,zv,hi,a,c,d,f⟩:=z2i (P:=prog) (e:=4) (zv:=(.bool false)) (k:=1) (b:=1) (by kernel_rfl);exact⟨i,zv,hi,a,c,d,fun R=>by subst f;exact rfl⟩
theorem ty4:TyOk prog 4 z2r:=by
 obtain⟨i,hi,a⟩: ∃ i,prog.info? 4=some i∧i.size=1:=tq (by kernel_rfl);exact z1u underlying4 hi rfl a
theorem zj9:SlOk prog 29 4 z2r:=⟨underlying29,ty4⟩
theorem z96{N:Nat}{R:RH}{x:Sa}{t:Value}(l:VRep (zn false false) R t x){r:(List Bool)×Int}(b:z3w N x=some r):CallP prog 7 #[t] R (fun v R'=> ∃ u0,v= .tuple #[u0,(vi r.2)]∧VRep (tSl true z2r) R' u0 r.1):=by
 refine qi (args:=[t]) func7 rfl rfl fun A=>?_;rw [z3w] at b;refine zq (bg (T:=(zn false false)) rfl rfl rfl l fun v1 R3 k h5 h2=>?_);refine zl vs0 (zl (vi 0) (ze (zw (zq (zz (uf z2e rfl rfl h5 (l.mono k)) ?_)))));obtain⟨B,c7,b⟩:=zt b
 refine qz rfl za9 rfl (yu (l.mono k) c7) fun v8 ae f h9=>?_;obtain rfl:=h9;refine zl (vi B) (qw (zh (vi B) (zz (jd rfl rfl) (ze (q8 rfl b (fun b=>?_) (fun b=>?_))))));refine zq (zh (vi B) (zl vs0 (zl (vi B) (ze (qd ?_)))));obtain rfl:=Option.some.inj b
 refine qc (D:=[]) (J:=[]) (rs:=[.tmp 2,.tmp 3]) (vs:=[vs0,(vi B)]) (k.trans f) rfl rfl ⟨rfl,rfl,trivial⟩ ?_;exact⟨rfl,⟨vs0,rfl,z0j⟩⟩;refine qb (zq (si rfl lu ut rfl (h2.mono f) fun ag H=>?_));refine ji rfl zak rfl H fun ah I=>?_
 refine zz (qo rfl underlying25 rfl (jr I)) ?_;obtain⟨p,b⟩:=zg b;refine z4y (T:=z2r) (m:=(↑x.fB.length:Int).toNat) (c:=(↑x.fB.length:Int).toNat) rfl underlying29 zo4 (zk rfl p.1) (zk rfl p.1) (Nat.le_refl _) (z5b p) (z5i p) fun d K u C=>?_;refine zl d (ze ?_)
 obtain⟨n,a,b⟩:=zt b;refine ql (γ:=(List Bool)×Frag) (rs [6,7,16,30]) (fun g=>[]) (fun g=>[g.2]++A) (fun g R=>n=g.1∧ORep z2r R g.2 d g.1∧capOf d=g.1.length∧True) ?_ ?_
 refine zq (zh d (zz (z1a rfl underlying29 rfl C) (zh (vi 0) (ze (qa (j4 (γ:=Nat×Int×(List Bool)×Frag) (rs [6,7,18,30]) (fun g=>[(18,(vi g.2.1))]) (fun g=>[g.2.2.2]++A) (fun g R=>z06 N x g.1 g.2.1 g.2.2.1=some n∧ORep z2r R g.2.2.2 d g.2.2.1∧capOf d=g.2.2.1.length∧True) (fun g=>g.1) (N,0,(mk (↑x.fB.length:Int) false),K) prm ⟨a,C,(u.trans List.length_replicate.symm),trivial⟩ ?_))))))
 clear a;rintro⟨q,e,w,L⟩ aj ak h ⟨a,y,s,_⟩;rcases q with _|q;exact qj a;replace a:z06 N x (q+1) e w=some n:=a;rw [z06] at a;refine zq (zz (jc rfl rfl) (ze (zw (q8 rfl a (fun a=>?_) (fun a=>?_)))))
 refine qb (zw (qa (zq (zh (vi e) (zl (vi e) (ze (zu (zh d (zh (vi e) (zz (uf z2e rfl rfl (h5.mono (f.trans h)) (l.mono ((k.trans f).trans h))) (zh (vi e) ?_)))))))))));obtain⟨M,O,a⟩:=zt a
 refine qz rfl zfs rfl (bi (l.mono ((k.trans f).trans h)) O) fun al am o P=>?_;refine zz (qo rfl underlying33 rfl (jr P)) (zz (oz rfl rfl) ?_);obtain⟨z,a⟩:=zg a;refine z03 (i:=e.toNat) rfl zj9 rfl (y.mono o) (zk rfl z.1) (zy z) fun an Q=>?_
 refine z1j (i:=e.toNat) (j:=0) ty4 (y.mono o) rfl rfl Q (zy z) rfl (ai.2 rfl) fun S U=>?_;refine ze (zu ?_);obtain⟨V,a⟩:=zg a;refine zz (qm rfl rfl V) (zh (vi (e+1)) (ze ?_))
 exact⟨dkt,o,jg,(q,e+1,(up w e (decide (0<(↑M.length:Int)))),S),Nat.lt_succ_self _,⟨rfl,trivial⟩,prm,a,U,(s.trans List.length_set.symm),trivial⟩;refine jb ?_;exact⟨dkt,h,jg,(w,L),trivial,prm,(Option.some.inj a).symm,y,s,trivial⟩;rintro⟨n,ao⟩ ap aq E ⟨rfl,W,F,_⟩
 refine zq (zh d (zl d (zl (vi 0) (ze (l5 (i:=0) rfl W fun X G Y=>?_)))));have Z:VRep (tSl true z2r) X d n:=(ou Y F);refine qd ?_;obtain rfl:=Option.some.inj b;refine qc (D:=[]) (J:=[]) (rs:=[.tmp 2,.tmp 3]) (vs:=[d,(vi 0)]) (((k.trans f).trans E).trans G) rfl rfl ⟨rfl,rfl,trivial⟩ ?_
 exact⟨rfl,⟨d,rfl,Z⟩⟩
theorem en7:Enters prog 7:=enters_of func7 rfl (by kernel_rfl)
theorem z99{N:Nat}{R:RH}{x:Sa}{b:Value}(f:VRep (zn false false) R b x){r:(List Int)×Int}(d:z3z N x=some r):CallP prog 8 #[b] R (fun v R'=> ∃ q,v= .tuple #[q,(vi r.2)]∧VRep (tSl true (zm .i64)) R' q r.1):=by
 refine qi (args:=[b]) func8 rfl rfl fun A=>?_;rw [z3z] at d;refine zq (bg (T:=(zn false false)) rfl rfl rfl f fun v1 R3 e p h2=>?_);refine zl vs0 (zl (vi 0) (ze (zw (zq (zz (uf z2e rfl rfl p (f.mono e)) ?_)))));obtain⟨j,O,d⟩:=zt d
 refine qz rfl za9 rfl (yu (f.mono e) O) fun v8 P a Q=>?_;obtain rfl:=Q;refine zl (vi j) (qw (zh (vi j) (zz (jd rfl rfl) (ze (q8 rfl d (fun d=>?_) (fun d=>?_))))));refine zq (zh (vi j) (zl vs0 (zl (vi j) (ze (qd ?_)))));obtain rfl:=Option.some.inj d
 refine qc (D:=[]) (J:=[]) (rs:=[.tmp 2,.tmp 3]) (vs:=[vs0,(vi j)]) (e.trans a) rfl rfl ⟨rfl,rfl,trivial⟩ ?_;exact⟨rfl,⟨vs0,rfl,z0j⟩⟩;refine qb (zw ?_);obtain⟨s,t,d⟩:=zt d;obtain⟨k,u,d⟩:=zt d
 refine bu 8 [] [phX b,phX b,phX b,phX (.func (.func 27) #[b] #[]),phR (tSl false (zm .i64)) s,phR (tSl true (zm .i64)) k,phR (tSl true (zm .i64)) k,phX (vi 0)] mixed (by kernel_rfl) (xu ⟨za,za,za,za,z01,z01,z01,za,trivial⟩) ⟨?_,?_,?_,?_,?_,?_,?_,?_,trivial⟩ fun S m=>?_;intro l U c g L
 exact zi rfl rfl rfl (zf (uf z2e rfl (g 1 rfl) ((p.mono a).mono c) ((f.mono (e.trans a)).mono c)));intro l V c g L;exact zi rfl rfl rfl (zf (uf z2e rfl (g 1 rfl) ((p.mono a).mono c) ((f.mono (e.trans a)).mono c)));intro l W c g L
 exact zi rfl rfl rfl (zf (uf z2e rfl (g 1 rfl) ((p.mono a).mono c) ((f.mono (e.trans a)).mono c)));rintro l X c g ⟨i,_⟩;have w:l 12=b:=i rfl;exact zi rfl rfl rfl (zf (ax (fs:=[b]) (cs:=[]) (by simp only [List.map,ev,w]<;>rfl) rfl));rintro l Y c g ⟨i,n,_⟩;have z:l 11=b:=i rfl
 have B:l 13=(.func (.func 27) #[b] #[]):=n rfl
 exact zi rfl rfl rfl (kw (vs:=[b,(.func (.func 27) #[b] #[])]) zj3 (by simp only [List.map,ev,z,B]<;>rfl) (z0q ((f.mono (e.trans a)).mono c) ((z9h (fs:=[b]) zj8 fun R1 Z z0 q y k0 hy=>by obtain rfl:=q9.1 k0;exact CallP.mono (fe ((f.mono (e.trans a)).mono Z) hy) fun v R2 _ hv=>ai.2 hv).mono c) t) (fun _ _ h=>h))
 rintro l ad c g ⟨i,n,M,_⟩;have C:l 10=b:=i rfl;exact zi rfl rfl rfl (kw (vs:=[b,(l 14)]) zl5 (by simp only [List.map,ev,C]<;>rfl) (z5r ((f.mono (e.trans a)).mono c) (n rfl) u) (fun _ _ h=>h));rintro l ae c g ⟨i,n,M,d3,d4,d5,d6,d7,_⟩;exact zi rfl rfl rfl (za4 (mh rfl) (i rfl))
 rintro l al c g ⟨i,n,M,d3,d4,d5,d6,d7,_⟩;exact zi rfl rfl rfl (zf (mh rfl));intro am E an F ao G ap H aq ar au av o I aw K;obtain rfl:=Eq.symm E;obtain rfl:=Eq.symm F;obtain rfl:=Eq.symm G;obtain rfl:=Eq.symm H;obtain rfl:=Eq.symm K;refine ze (qd ?_);obtain rfl:=Option.some.inj d
 refine qc (D:=[]) (J:=[]) (rs:=[.tmp 2,.tmp 3]) (vs:=[o,(vi 0)]) ((e.trans a).trans m) rfl rfl ⟨rfl,rfl,trivial⟩ ?_;exact⟨rfl,⟨o,rfl,I⟩⟩
theorem en8:Enters prog 8:=enters_of func8 rfl (by kernel_rfl)
theorem z7p{N:Nat}{R:RH}{s:List Int}{b:Value}{fE:Frag}(y:ORep (zm .i64) R fE b s){r:(List Int)}(o:slices_Compact_int N s=some r):CallG prog 36 #[b] R [fE] (fun v R' O'=> ∃ u0,v=u0∧O'=[]∧VRep (tSl false (zm .i64)) R' u0 r):=by
 refine yo (args:=[b]) func36 rfl rfl fun A=>?_;rw [slices_Compact_int] at o;refine zq (zl vs0 (ze (zw (zq (zh b (zz (z1a rfl underlying33 rfl y) (zz (jc rfl rfl) (ze (q8 rfl o (fun o=>?_) (fun o=>?_))))))))));refine zq (zh b (zl b (ze (l5 (i:=0) rfl y fun R2 aB h4=>?_))))
 have h5:VRep (tSl false (zm .i64)) R2 b s:=(z6j h4);refine qd ?_;obtain rfl:=Option.some.inj o;refine uq (D:=[]) (J:=[]) (O':=[]) (rs:=[.tmp 2]) (vs:=[b]) aB ((List.Perm.refl _)) rfl ⟨rfl,trivial⟩ ?_;exact⟨b,rfl,rfl,h5⟩;refine qb ?_;obtain⟨q7,c,o⟩:=zt o
 refine ql (γ:=Unit) (rs [2,6,10,60]) (fun g=>[]) (fun g=>[fE]++A) (fun g R=>q7=Ex.go g∧True) ?_ ?_;refine zq (zl (vi 1) (ze (qa (j4 (γ:=Nat×Int) (rs [2,6,10,60]) (fun g=>[(3,(vi g.2))]) (fun g=>[fE]++A) (fun g R=>rq N s g.1 g.2=some q7∧True) (fun g=>g.1) (N,1) prm ⟨c,trivial⟩ ?_))));clear c
 rintro⟨Q,a⟩ aZ bf m ⟨c,_⟩;rcases Q with _|Q;exact qj c;replace c:rq N s (Q+1) a=some q7:=c;rw [rq] at c;refine zw (zq (zh (vi a) (zh b (zz (z1a rfl underlying33 rfl (y.mono m)) (zz (jc rfl rfl) (ze (q8 rfl c (fun c=>?_) (fun c=>?_))))))))
 refine qb (zw (qa (zw (z5k 10 mixed (by kernel_rfl) (by kernel_rfl) ?_))));refine oq (v:=b) (zb rfl) ?_;refine oq (v:=(vi a)) (zb rfl) ?_;obtain⟨X,c⟩:=zg c;refine zbx (z7w (i:=a.toNat) lc rfl (y.mono m) (zk rfl X.1) (zy X)) fun bg aD=>?_
 refine oq (z0r (z98 (i:=a.toNat) (j:=0) ty3 (y.mono m) rfl rfl aD (zy X))) ?_;refine oq (v:=b) (zb rfl) ?_;refine oq (v:=(vi a)) (zb rfl) ?_;obtain⟨aE,c⟩:=zg c;refine oq (kz rfl rfl aE) ?_;obtain⟨Y,c⟩:=zg c
 refine zbx (z7w (i:=(a-1).toNat) lc rfl (y.mono m) (zk rfl Y.1) (zy Y)) fun bh aF=>?_;refine oq (z0r (z98 (i:=(a-1).toNat) (j:=0) ty3 (y.mono m) rfl rfl aF (zy Y))) ?_;refine oq (pu rfl rfl) ?_;intro bi C;refine ze (q8 rfl c (fun c=>?_) (fun c=>?_))
 refine zq (zh b (zh (vi a) ?_));obtain⟨Z,c⟩:=zg c;refine z1x rfl (zf (z7f (lo:=a.toNat) (hi:=s.length) lc rfl (y.mono (m.trans C)) (.inr ⟨_,congrArg some (zk rfl Z.1)⟩) (.inl ⟨rfl,rfl,rfl⟩) (z4t Z) (z1l Z))) fun bj bk V aG=>?_;obtain rfl:=Eq.symm aG;refine zl (z5u 1 b a.toNat s.length) (ze ?_)
 obtain⟨f,k,c⟩:=zt c;refine ql (γ:=(Int×List Int)×Frag) (rs [3,4,5,6,29,54]) (fun g=>[(3,(vi g.1.1))]) (fun g=>[g.2]++A) (fun g R=>f=g.1∧ORep (zm .i64) R g.2 b g.1.2∧True) ?_ ?_
 refine zq (zl (vi 1) (ze (qa (j4 (γ:=Nat×Int×Int×(List Int)×Frag) (rs [3,4,5,6,29,54]) (fun g=>[(3,(vi g.2.1)),(5,(vi g.2.2.1))]) (fun g=>[g.2.2.2.2]++A) (fun g R=>ru N s a g.1 g.2.1 g.2.2.1 g.2.2.2.1=some f∧ORep (zm .i64) R g.2.2.2.2 b g.2.2.2.1∧True) (fun g=>g.1) (N,a,1,s,fE) prm ⟨k,(y.mono ((m.trans C).trans V)),trivial⟩ ?_))))
 clear k;rintro⟨S,z,d,t,ac⟩ a0 bl ad ⟨k,w,_⟩;rcases S with _|S;exact qj k;replace k:ru N s a (S+1) z d t=some f:=k;rw [ru] at k
 refine zw (zq (zh (vi d) (zh (z5u 1 b a.toNat s.length) (z1x rfl (zf (zc5 rfl underlying33 rfl w)) fun bm bn e aH=>?_))));obtain rfl:=Eq.symm aH;refine zz (jc rfl rfl) (ze (q8 rfl k (fun k=>?_) (fun k=>?_)));refine qb ?_;obtain⟨U,p,k⟩:=zt k
 refine ql (γ:=(Int×List Int)×Frag) (rs [3,4,35,54]) (fun g=>[(3,(vi g.1.1))]) (fun g=>[g.2]++A) (fun g R=>U=g.1∧ORep (zm .i64) R g.2 b g.1.2∧True) ?_ ?_;refine qa (zw ?_);obtain⟨I,aI,K,p⟩:=zgr p
 refine bu 10 [] [phX (z5u 1 b a.toNat s.length),phX (vi d),(fun u _=>wu (zm .i64) b t u (a+d).toNat),phX (vi (ix t (a+d))),phX (z5u 1 b a.toNat s.length),phX (vi d),phX (vi (d-1)),(fun u _=>wu (zm .i64) b t u (a+(d-1)).toNat),phX (vi (ix t (a+(d-1)))),phX (.bool (decide ((ix t (a+d))≠(ix t (a+(d-1))))))] mixed (by kernel_rfl) (xu ⟨za,za,(fun _ _ _ _ h=>h),za,za,za,za,(fun _ _ _ _ h=>h),za,za,trivial⟩) ⟨?_,?_,?_,?_,?_,?_,?_,?_,?_,?_,trivial⟩ fun bo x=>?_
 intro l bp q H hd;exact zi rfl rfl rfl (zf (zb (H 4 rfl)));intro l bq q H hd;exact zi rfl rfl rfl (zf (zb (H 5 rfl)));rintro l br q H ⟨L,d1,_⟩
 exact zi rfl rfl rfl (z3c (T:=(zm .i64)) (lo:=a.toNat) (hi:=s.length) (n:=(a+d).toNat) lc (L rfl) ((w.mono e).mono q) (zk (d1 rfl) I.2.1) (zcd I) (zc7 I) (za8 I));rintro l bs q H ⟨L,_⟩
 exact zi rfl rfl rfl (j3 (jh (i:=(a+d).toNat) (j:=0) ty3 ((w.mono e).mono q) rfl rfl (L rfl) (zy (zc6 I))) (fun _ _ h=>q9.1 h));intro l bt q H hd;exact zi rfl rfl rfl (zf (zb (H 4 rfl)));intro l bv q H hd;exact zi rfl rfl rfl (zf (zb (H 5 rfl)));rintro l bw q H ⟨L,_⟩
 exact zi rfl rfl rfl (zf (kz (L rfl) rfl aI));rintro l bx q H ⟨L,d1,_⟩;exact zi rfl rfl rfl (z3c (T:=(zm .i64)) (lo:=a.toNat) (hi:=s.length) (n:=(a+(d-1)).toNat) lc (L rfl) ((w.mono e).mono q) (zk (d1 rfl) K.2.1) (zcd K) (zc7 K) (za8 K));rintro l bz q H ⟨L,_⟩
 exact zi rfl rfl rfl (j3 (jh (i:=(a+(d-1)).toNat) (j:=0) ty3 ((w.mono e).mono q) rfl rfl (L rfl) (zy (zc6 K))) (fun _ _ h=>q9.1 h));rintro l bA q H ⟨L,d1,_⟩;exact zi rfl rfl rfl (zf (jd (L rfl) (d1 rfl)));intro bB aK bC aL bD bE bF aM bG aN bH aO bI aP bJ bK bL aQ bM aR;obtain rfl:=Eq.symm aK
 obtain rfl:=Eq.symm aL;obtain rfl:=Eq.symm aM;obtain rfl:=Eq.symm aN;obtain rfl:=Eq.symm aO;obtain rfl:=Eq.symm aP;obtain rfl:=Eq.symm aQ;obtain rfl:=Eq.symm aR;refine ze (q8 rfl p (fun p=>?_) (fun p=>?_));refine zq (zh b (zh (vi z) (zh (z5u 1 b a.toNat s.length) (zh (vi d) ?_))));obtain⟨M,p⟩:=zg p
 refine z1x rfl (z3c (T:=(zm .i64)) (lo:=a.toNat) (hi:=s.length) (n:=(a+d).toNat) lc rfl (w.mono (e.trans x)) (zk rfl M.2.1) (zcd M) (zc7 M) (za8 M)) fun bN bO E aS=>?_;refine z5v (i:=(a+d).toNat) (j:=0) rfl ty3 (w.mono ((e.trans x).trans E)) rfl rfl aS (zy (zc6 M)) fun a1 af=>?_
 obtain rfl:=q9.1 af;obtain⟨O,p⟩:=zg p;refine z03 (i:=z.toNat) rfl lc rfl (w.mono ((e.trans x).trans E)) (zk rfl O.1) (zy O) fun a2 ag=>?_;refine z1j (i:=z.toNat) (j:=0) ty3 (w.mono ((e.trans x).trans E)) rfl rfl ag (zy O) rfl (q9.2 rfl) fun ah ai=>?_
 refine ze (zu (zh (vi z) ?_));obtain⟨aj,p⟩:=zg p;refine zz (qm rfl rfl aj) (zl (vi (z+1)) (ze ?_));exact⟨dkt,(x.trans E),jg,((z+1,(up t z (ix t (a+d)))),ah),⟨rfl,trivial⟩,prm,(Option.some.inj p).symm,ai,trivial⟩;refine qb ?_
 exact⟨dkt,x,jg,((z,t),ac),⟨rfl,trivial⟩,prm,(Option.some.inj p).symm,(w.mono (e.trans x)),trivial⟩;rintro⟨U,aT⟩ a3 bP ak ⟨rfl,aU,_⟩;refine zu (zh (vi d) ?_);obtain⟨al,k⟩:=zg k;refine zz (qm rfl rfl al) (zl (vi (d+1)) (ze ?_))
 exact⟨dkt,(e.trans ak),jg,(S,U.1,d+1,U.2,aT),Nat.lt_succ_self _,⟨rfl,rfl,trivial⟩,prm,k,aU,trivial⟩;refine jb ?_;exact⟨dkt,(ad.trans e),jg,((z,t),ac),⟨rfl,trivial⟩,prm,(Option.some.inj k).symm,(w.mono e),trivial⟩;rintro⟨f,aV⟩ a4 bQ am ⟨rfl,an,_⟩;refine zq (zh b (zh (vi f.1) ?_))
 obtain⟨B,c⟩:=zg c;refine z1x rfl (zf (z7f (lo:=f.1.toNat) (hi:=f.2.length) lc rfl an (.inr ⟨_,congrArg some (zk rfl B.1)⟩) (.inl ⟨rfl,rfl,rfl⟩) (z4t B) (z1l B))) fun a5 a6 P ao=>?_;obtain rfl:=Eq.symm ao
 refine z9k (Oc:=[aV]) (Or:=[]++A) (List.Perm.refl _) (z8u (lo:=f.1.toNat) (hi:=f.2.length) rfl underlying33 zo3 (an.mono P) (z4t B) (z1l B) rfl) ?_;rintro a7 a8 aW aX ⟨rfl,a9,rfl,rfl,W⟩;refine qw (zh b (zh (vi f.1) ?_));obtain⟨F,c⟩:=zg c
 refine z7v (v:=b) (lo:=(0:Int).toNat) (hi:=f.1.toNat) (mx:=(capOf b)) rfl lc rfl W (.inl ⟨rfl,rfl⟩) (.inr ⟨_,congrArg some (zk rfl (z8y F))⟩) (.inl ⟨rfl,rfl⟩) (z4t F) (z1l F) (Nat.le_trans (z1l F) (z9g W)) (Nat.le_refl _) fun G ap aA=>?_;refine zl G (ze (l5 (i:=0) rfl ap fun aq aa ar=>?_))
 have au:VRep (tSl false (zm .i64)) aq G (cut (z4z f.2 f.1.toNat (List.replicate (f.2.length-f.1.toNat) (0:Int))) 0 f.1):=(z6j ar);refine qd ?_;replace o:=lm c o;obtain rfl:=Option.some.inj o
 refine uq (D:=[]) (J:=[]) (O':=[]) (rs:=[.tmp 2]) (vs:=[G]) (((((m.trans C).trans V).trans am).trans P).trans aa) ((List.Perm.refl _)) rfl ⟨rfl,trivial⟩ ?_;exact⟨G,rfl,rfl,au⟩;refine qb (zu (zh (vi a) ?_));obtain⟨av,c⟩:=zg c;refine zz (qm rfl rfl av) (zl (vi (a+1)) (ze ?_))
 exact⟨dkt,C,jg,(Q,a+1),Nat.lt_succ_self _,⟨rfl,trivial⟩,prm,c,trivial⟩;refine jb ?_;exact⟨dkt,m,jg,(),trivial,prm,(Option.some.inj c).symm,trivial⟩;rintro o6 ba R8 aw ⟨rfl,_⟩;replace o:=z0o o;refine zq (zh b (zl b (ze (l5 (i:=0) rfl (y.mono aw) fun ax ab ay=>?_))))
 have az:VRep (tSl false (zm .i64)) ax b s:=(z6j ay);refine qd ?_;obtain rfl:=Option.some.inj o;refine uq (D:=[]) (J:=[]) (O':=[]) (rs:=[.tmp 2]) (vs:=[b]) (aw.trans ab) ((List.Perm.refl _)) rfl ⟨rfl,trivial⟩ ?_;exact⟨b,rfl,rfl,az⟩
theorem zmh:Enters prog 36:=enters_of func36 rfl (by kernel_rfl)
theorem z3q{N:Nat}{R:RH}{x:Sa}{s:Value}(l:VRep (zn false false) R s x){r:(List Int)×Int}(a:z0t N x=some r):CallP prog 16 #[s] R (fun v R'=> ∃ u0,v= .tuple #[u0,(vi r.2)]∧VRep (tSl true (zm .i64)) R' u0 r.1):=by
 refine qi (args:=[s]) func16 rfl rfl fun A=>?_;rw [z0t] at a;refine zq (bg (T:=(zn false false)) rfl rfl rfl l fun v1 R3 h h5 h2=>?_);refine zl vs0 (zl (vi 0) (ze (zw (zq (zz (uf z2e rfl rfl h5 (l.mono h)) ?_)))));obtain⟨E,c7,a⟩:=zt a
 refine qz rfl za9 rfl (yu (l.mono h) c7) fun v8 aE d h9=>?_;obtain rfl:=h9;refine zl (vi E) (qw (zh (vi E) (zz (jd rfl rfl) (ze (q8 rfl a (fun a=>?_) (fun a=>?_))))));refine zq (zh (vi E) (zl vs0 (zl (vi E) (ze (qd ?_)))));obtain rfl:=Option.some.inj a
 refine qc (D:=[]) (J:=[]) (rs:=[.tmp 2,.tmp 3]) (vs:=[vs0,(vi E)]) (h.trans d) rfl rfl ⟨rfl,rfl,trivial⟩ ?_;exact⟨rfl,⟨vs0,rfl,z0j⟩⟩;refine qb (zq (zl vs0 (ze ?_)));obtain⟨n,b,a⟩:=zt a
 refine ql (γ:=(List Int)×Value×Frag) (rs [5,8,13,32]) (fun g=>[(5,g.2.1)]) (fun g=>[g.2.2]++A) (fun g R=>n=g.1∧ORep (zm .i64) R g.2.2 g.2.1 g.1∧True) ?_ ?_;refine zq (si rfl lu ut rfl (h2.mono d) fun aG S=>?_);refine ji rfl zak rfl S fun aH U=>?_
 refine zz (qo rfl underlying25 rfl (jr U)) (zh (vi 0) (ze (qa (z5p ?_))))
 refine j4 (γ:=Nat×(List Int)×Int×Value×Frag) (rs [5,8,16,32]) (fun g=>[(5,g.2.2.2.1),(16,(vi g.2.2.1))]) (fun g=>[g.2.2.2.2]++A) (fun g R=>r9 N x g.1 g.2.1 g.2.2.1=some n∧ORep (zm .i64) R g.2.2.2.2 g.2.2.2.1 g.2.1∧True) (fun g=>g.1) (N,[],0,vs0,emp) prm ⟨b,(z1p (T:=(zm .i64))),trivial⟩ ?_;clear b
 rintro⟨o,m,j,t,F⟩ aI aJ e ⟨b,u,_⟩;rcases o with _|o;exact qj b;replace b:r9 N x (o+1) m j=some n:=b;rw [r9] at b;refine zq (zz (jc rfl rfl) (ze (zw (q8 rfl b (fun b=>?_) (fun b=>?_)))));refine qb ?_;obtain⟨w,c,b⟩:=zt b
 refine ql (γ:=(List Int)×Value×Frag) (rs [5,8,18,31]) (fun g=>[(5,g.2.1)]) (fun g=>[g.2.2]++A) (fun g R=>w=g.1∧ORep (zm .i64) R g.2.2 g.2.1 g.1∧True) ?_ ?_;refine qa (zq (zh (vi j) (zl (vi j) (qw (zz (uf z2e rfl rfl (h5.mono (d.trans e)) (l.mono ((h.trans d).trans e))) (zh (vi j) ?_))))))
 obtain⟨k,V,c⟩:=zt c;refine qz rfl zfs rfl (bi (l.mono ((h.trans d).trans e)) V) fun y aK f G=>?_;refine zl y (qw (zh y (zz (qo rfl underlying33 rfl (jr G)) (zz (pu rfl rfl) (ze (q8 rfl c (fun c=>?_) (fun c=>?_)))))));refine zu (zh t (zh y ?_))
 obtain⟨H,c⟩:=zg c;refine ug (i:=(0:Int).toNat) rfl lc rfl (jr G) (zk rfl H.1) (zy H) fun aL W=>?_;refine ji rfl ty3 rfl W fun aM Z=>?_;obtain rfl:=q9.1 Z
 refine vg (T:=(zm .i64)) (X:=([(ix k 0)]:List Int)) (ps:=[(0,(vi (ix k 0)))]) (css:=[[(vi (ix k 0))]]) rfl underlying33 zo3 rfl rfl (qx ⟨rfl,trivial⟩) rfl rfl (by decide) fun aa aN z ab=>?_;refine jf (i:=0) rfl ab fun ac q ad=>?_;have ae:VRep (tSl true (zm .i64)) ac aa ([(ix k 0)]:List Int):=(ou ad z)
 obtain⟨I,c⟩:=zg c;refine z0d (i:=0) (X:=m) (Y:=([(ix k 0)]:List Int)) rfl underlying33 zo3 rfl rfl rfl (u.mono (f.trans q)) (jr (Sub.v (B:=(tSl false (zm .i64))) (j5 Sub.refl (fun _=>rfl)) ae)) I.1 I.2 fun K af ag=>?_;refine zl K (ze ?_)
 exact⟨dkt,(f.trans q),jg,((m++([(ix k 0)]:List Int)),K,af),⟨rfl,trivial⟩,prm,(Option.some.inj c).symm,ag,trivial⟩;refine qb ?_;exact⟨dkt,f,jg,(m,t,F),⟨rfl,trivial⟩,prm,(Option.some.inj c).symm,(u.mono f),trivial⟩;rintro⟨w,ah,ai⟩ aO aP L ⟨rfl,aj,_⟩;refine zu ?_;obtain⟨ak,b⟩:=zg b
 refine zz (qm rfl rfl ak) (zh (vi (j+1)) (ze ?_));exact⟨dkt,L,jg,(o,w,j+1,ah,ai),Nat.lt_succ_self _,⟨rfl,rfl,trivial⟩,prm,b,aj,trivial⟩;refine jb ?_;exact⟨dkt,e,jg,(m,t,F),⟨rfl,trivial⟩,prm,(Option.some.inj b).symm,u,trivial⟩;rintro⟨n,p,al⟩ aQ aR M ⟨rfl,am,_⟩;refine zq (zh p ?_)
 obtain⟨aS,an,a⟩:=zt a;refine xx (Oc:=[al]) (Or:=[]++A) (cs:=[]) (vs:=[p]) rfl zkz rfl rfl ((pk 0 rfl (List.Perm.refl _))) (z5h am an) fun aT aU aA O ao=>?_;obtain⟨ap,rfl,rfl,aq⟩:=ao;refine qw (zh p ?_);obtain⟨aV,ar,a⟩:=zt a
 refine xx (Oc:=[ap]) (Or:=[]++A) (cs:=[]) (vs:=[p]) rfl zmh rfl rfl ((pk 0 rfl (List.Perm.refl _))) (z7p aq ar) fun aW aX aB P au=>?_;obtain⟨_,rfl,rfl,av⟩:=au;obtain⟨aY,aw,a⟩:=zt a;refine qz rfl zk1 rfl (z5f av aw) fun C aZ Q ax=>?_;refine zl C (zl (vi 0) (ze (qd ?_)))
 obtain rfl:=Option.some.inj a;refine qc (D:=[]) (J:=[]) (rs:=[.tmp 2,.tmp 3]) (vs:=[C,(vi 0)]) (((((h.trans d).trans M).trans O).trans P).trans Q) rfl rfl ⟨rfl,rfl,trivial⟩ ?_;exact⟨rfl,⟨C,rfl,ax⟩⟩
end GV
end Go.Proofs.Ytkhihcleegljhaa
