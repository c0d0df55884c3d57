import Derived.Test.YtjmlpkkbmnjhcaaGreatShWg
import Derived.Test.YtjmlpkkbmnjhcaaGreatRows
set_option linter.unusedVariables false
set_option linter.unusedSimpArgs false
set_option linter.unusedSectionVars false
namespace Go.Proofs.YtjmlpkkbmnjhcaaGreat
namespace GV
open _root_.Go.Proofs.Tryz
open Go.IntWalk
set_option maxRecDepth 100000
set_option maxHeartbeats 20000000
theorem zgg{N:Nat}{R:RH}{u:(List Int)}{d:Value}(j:VRep (tSl false (zz .i64)) R d u){n:Int}{r:(List Int)}(m:z5t N u n=some r):CallP prog 53 #[d,(vi n)] R (fun v R'=>VRep (tSl false (zz .i64)) R' v r):=by
 refine qw (args:=[d,(vi n)]) func53 rfl rfl fun A=>?_;rw [z5t] at m;refine zq (zk vs0 (jb (zk vs0 (jb (zk (.bool false) (ze ?_))))));obtain⟨y,a,m⟩:=zu m
 refine qz (γ:=(List Int×Bool)×Value×Frag) (rs [5,41]) (fun g=>[(5,g.2.1),(6,(.bool g.1.2))]) (fun g=>[g.2.2]++A) (fun g R=>y=g.1∧ORep (zz .i64) R g.2.2 g.2.1 g.1.1∧True) ?_ ?_;refine zq (zk (vi 0) (ze (qj (z5s ?_))))
 refine jf (γ:=Nat×(List Int)×Bool×Int×Value×Frag) (rs [5,41]) (fun g=>[(5,g.2.2.2.2.1),(6,(.bool g.2.2.1)),(7,(vi g.2.2.2.1))]) (fun g=>[g.2.2.2.2.2]++A) (fun g R=>lm N u n g.1 g.2.1 g.2.2.1 g.2.2.2.1=some y∧ORep (zz .i64) R g.2.2.2.2.2 g.2.2.2.2.1 g.2.1∧True) (fun g=>g.1) (N,[],false,0,vs0,emp) prm ⟨a,(z2c (T:=(zz .i64))),trivial⟩ ?_
 clear a;rintro⟨F9,p,q,b,G,O⟩ a2 a3 f ⟨a,H,_⟩;rcases F9 with _|F9;exact j5 a;replace a:lm N u n (F9+1) p q b=some y:=a;rw [lm] at a
 refine qc (zq (zh (vi b) (zh d (zx (j4 rfl underlying30 rfl (jo (j.mono f))) (zx (jg rfl rfl) (ze (zy rfl a (fun a=>?_) (fun a=>?_))))))));refine qi ?_;obtain⟨w,c,a⟩:=zu a
 refine qz (γ:=(Bool×List Int)×Value×Frag) (rs [5,7,14,41]) (fun g=>[(5,g.2.1),(6,(.bool g.1.1))]) (fun g=>[g.2.2]++A) (fun g R=>w=g.1∧ORep (zz .i64) R g.2.2 g.2.1 g.1.2∧True) ?_ ?_;refine qj ?_;obtain⟨h,e,c⟩:=zu c
 refine qz (γ:=(Bool×List Int)×Value×Frag) (rs [5,7,14,28]) (fun g=>[(5,g.2.1),(6,(.bool g.1.1))]) (fun g=>[g.2.2]++A) (fun g R=>h=g.1∧ORep (zz .i64) R g.2.2 g.2.1 g.1.2∧True) ?_ ?_
 refine zq (jd (v:=(.bool q)) rfl (z8 rfl) (jd rfl (fo rfl) (jd (v:=(.bool (!q))) rfl (z8 rfl) (qo rfl rfl rfl rfl (fun o=>qf (v:=(vi n)) (z8 rfl)) fun a4 ap=>?_))));refine qo rfl rfl rfl rfl (fun o=>qf (v:=d) (z8 rfl)) fun a5 aq=>?_
 refine qo rfl rfl rfl rfl (fun o=>qf (v:=(vi b)) (z8 rfl)) fun a6 ar=>?_;obtain⟨P,e⟩:=zg e;refine qo rfl rfl rfl rfl (fun o=>ll (i:=b.toNat) z3y (aq.1 (zl rfl o)) (jo (j.mono f)) (zt (ar.1 (zl rfl o)) (P (zl rfl o)).1) (qd (P (zl rfl o)))) fun a7 au=>?_
 refine qo rfl rfl rfl rfl (fun o=>qf (lc (u7 ty3 rfl (au.1 (zl rfl o))))) fun a8 av=>?_;refine qo rfl rfl rfl rfl (fun o=>qf (z5q (ap.1 (zl rfl o)) (av.1 (zl rfl o)))) fun a9 aw=>?_;refine jd rfl (uw rfl (fun hb=>(aw.1 (zl rfl hb))) rfl) (ze (zy rfl e (fun e=>?_) (fun e=>?_)))
 refine zq (zh G (zh (vi n) (dh (T:=(zz .i64)) (X:=([n]:List Int)) (ps:=[(0,(vi n))]) (css:=[[(vi n)]]) rfl underlying30 zo3 rfl rfl (kw ⟨rfl,trivial⟩) rfl rfl (by decide) fun ax bb I ay=>?_)));refine wh (i:=0) rfl ay fun az z aA=>?_
 have aB:VRep (tSl true (zz .i64)) az ax ([n]:List Int):=(z4e aA I);obtain⟨Q,e⟩:=zg e;refine di (i:=0) (X:=p) (Y:=([n]:List Int)) rfl underlying30 zo3 rfl rfl rfl (H.mono z) (jo (Sub.v (B:=(tSl false (zz .i64))) (um Sub.refl (fun _=>rfl)) aB)) Q.1 Q.2 fun S aC aD=>?_
 refine zk S (ze (q8 (zk (.bool true) (ze ?_))));exact⟨dkt,z,ji,((true,(p++([n]:List Int))),S,aC),⟨rfl,rfl,trivial⟩,prm,(Option.some.inj e).symm,aD,trivial⟩;refine qi ?_;exact⟨dkt,(RH.le.refl _),ji,((q,p),G,O),⟨rfl,rfl,trivial⟩,prm,(Option.some.inj e).symm,H,trivial⟩
 rintro⟨h,U,aE⟩ bc be k ⟨rfl,V,_⟩;refine zq (zh d (zh (vi b) ?_));obtain⟨W,c⟩:=zg c;refine p8 (i:=b.toNat) rfl z3y rfl (jo (j.mono (f.trans k))) (zt rfl W.1) (qd W) fun bf aF=>?_;refine jc rfl ty3 rfl aF fun bg aG=>?_;obtain rfl:=ql.1 aG
 refine zh (vi n) (zx (u6 rfl rfl) (ze (zy rfl c (fun c=>?_) (fun c=>?_))));refine q8 (zh U (zh d (zh (vi b) ?_)));obtain⟨Z,c⟩:=zg c;refine p8 (i:=b.toNat) rfl z3y rfl (jo (j.mono (f.trans k))) (zt rfl Z.1) (qd Z) fun bh aH=>?_;refine jc rfl ty3 rfl aH fun bi aI=>?_
 obtain rfl:=ql.1 aI;refine dh (T:=(zz .i64)) (X:=([(ix u b)]:List Int)) (ps:=[(0,(vi (ix u b)))]) (css:=[[(vi (ix u b))]]) rfl underlying30 zo3 rfl rfl (kw ⟨rfl,trivial⟩) rfl rfl (by decide) fun aJ bj K aK=>?_;refine wh (i:=0) rfl aK fun aL C aM=>?_
 have aN:VRep (tSl true (zz .i64)) aL aJ ([(ix u b)]:List Int):=(z4e aM K);obtain⟨aa,c⟩:=zg c;refine di (i:=0) (X:=h.2) (Y:=([(ix u b)]:List Int)) rfl underlying30 zo3 rfl rfl rfl (V.mono C) (jo (Sub.v (B:=(tSl false (zz .i64))) (um Sub.refl (fun _=>rfl)) aN)) aa.1 aa.2 fun ab aO aP=>?_;refine zk ab (ze ?_)
 exact⟨dkt,(k.trans C),ji,((h.1,(h.2++([(ix u b)]:List Int))),ab,aO),⟨rfl,rfl,trivial⟩,prm,(Option.some.inj c).symm,aP,trivial⟩;refine qi ?_;exact⟨dkt,k,ji,((h.1,h.2),U,aE),⟨rfl,rfl,trivial⟩,prm,(Option.some.inj c).symm,V,trivial⟩;rintro⟨w,aQ,aR⟩ bk bl ac ⟨rfl,aS,_⟩;refine q8 (zh (vi b) ?_)
 obtain⟨aT,a⟩:=zg a;refine zx (ja rfl rfl aT) (zk (vi (b+1)) (ze ?_));exact⟨dkt,ac,ji,(F9,w.2,w.1,b+1,aQ,aR),Nat.lt_succ_self _,⟨rfl,rfl,rfl,trivial⟩,prm,a,aS,trivial⟩;refine jk ?_;exact⟨dkt,f,ji,((p,q),G,O),⟨rfl,rfl,trivial⟩,prm,(Option.some.inj a).symm,H,trivial⟩
 rintro⟨y,v4,f5⟩ aW R2 aU ⟨rfl,h6,_⟩;obtain⟨s,a,m⟩:=zu m;refine qz (γ:=(List Int)×Value×Frag) [41,42,43,44,45,46,5] (fun g=>[(5,g.2.1)]) (fun g=>[g.2.2]++A) (fun g R=>s=g.1∧ORep (zz .i64) R g.2.2 g.2.1 g.1∧True) ?_ ?_;refine zq (zh (.bool y.2) (zx (fo rfl) (ze (zy rfl a (fun a=>?_) (fun a=>?_)))))
 refine q8 (zh v4 (zh (vi n) (dh (T:=(zz .i64)) (X:=([n]:List Int)) (ps:=[(0,(vi n))]) (css:=[[(vi n)]]) rfl underlying30 zo3 rfl rfl (kw ⟨rfl,trivial⟩) rfl rfl (by decide) fun ad aY x ae=>?_)));refine wh (i:=0) rfl ae fun af t ag=>?_
 have ah:VRep (tSl true (zz .i64)) af ad ([n]:List Int):=(z4e ag x);obtain⟨E,a⟩:=zg a;refine di (i:=0) (X:=y.1) (Y:=([n]:List Int)) rfl underlying30 zo3 rfl rfl rfl (h6.mono t) (jo (Sub.v (B:=(tSl false (zz .i64))) (um Sub.refl (fun _=>rfl)) ah)) E.1 E.2 fun F ai aj=>?_;refine zk F (ze ?_)
 exact⟨dkt,t,ji,((y.1++([n]:List Int)),F,ai),⟨rfl,trivial⟩,prm,(Option.some.inj a).symm,aj,trivial⟩;refine qi ?_;exact⟨dkt,(RH.le.refl _),ji,(y.1,v4,f5),⟨rfl,trivial⟩,prm,(Option.some.inj a).symm,h6,trivial⟩;rintro⟨s,l,aZ⟩ a0 a1 L ⟨rfl,ak,_⟩
 refine zq (zh l (zk l (ze (z1p (i:=0) rfl ak fun al M am=>?_))));have an:VRep (tSl false (zz .i64)) al l s:=(z6x am);refine qp ?_;obtain rfl:=Option.some.inj m;refine qm (D:=[]) (J:=[]) (rs:=[.tmp 4]) (vs:=[l]) ((aU.trans L).trans M) rfl rfl ⟨rfl,trivial⟩ ?_;exact⟨rfl,an⟩
theorem qaw:Enters prog 53:=enters_of func53 rfl (by kernel_rfl)
theorem z9s{N:Nat}{R:RH}{m:Mach}{j:Value}(u:VRep (kv false false) R j m){s:(List Int)}{f:Value}(t:VRep (tSl false (zz .i64)) R f s){I:(List Int)}{e:Value}(y:VRep (tSl false (zz .i64)) R e I){r:(List Int)}(o:z04 N m s I=some r):CallP prog 18 #[j,f,e] R (fun v R'=>VRep (tSl false (zz .i64)) R' v r):=by
 refine qw (args:=[j,f,e]) func18 rfl rfl fun A=>?_;rw [z04] at o;refine zq (vv (T:=(kv false false)) rfl rfl rfl u fun v1 R3 k h5 h2=>?_);refine zk vs0 (jb (zk vs0 (ze ?_)));obtain⟨K,a,o⟩:=zu o
 refine qz (γ:=((List Int))×Value) (rs [7,24]) (fun g=>[(7,g.2)]) (fun g=>[]++A) (fun g R=>K=g.1∧VRep (tSl false (zz .i64)) R g.2 g.1∧True) ?_ ?_
 refine zq (zk (vi 0) (ze (qj (jf (γ:=Nat×((List Int))×Int×Value) (rs [7,24]) (fun g=>[(7,g.2.2.2),(8,(vi g.2.2.1))]) (fun g=>[]++A) (fun g R=>au N m s I g.1 g.2.1 g.2.2.1=some K∧VRep (tSl false (zz .i64)) R g.2.2.2 g.2.1∧True) (fun g=>g.1) (N,([]:(List Int)),0,vs0) prm ⟨a,z3j,trivial⟩ ?_))))
 clear a;rintro⟨p,z,c,q⟩ aj ak d ⟨a,B,_⟩;rcases p with _|p;exact j5 a;replace a:au N m s I (p+1) z c=some K:=a;rw [au] at a
 refine qc (zq (zh (vi c) (zh f (zx (j4 rfl underlying30 rfl (jo (t.mono (k.trans d)))) (zx (jg rfl rfl) (ze (zy rfl a (fun a=>?_) (fun a=>?_))))))));refine qi (qc (qj ?_));obtain⟨C,a⟩:=zg a;obtain⟨w,L,a⟩:=zu a;obtain⟨E,M,a⟩:=zu a
 refine xq 9 [] [phX q,phX j,phX f,phX (vi c),phP (zz .i64) (ix s c),phX (vi (ix s c)),phX e,phX (vi w),phR (tSl false (zz .i64)) E] mixed (by kernel_rfl) (wz ⟨zi,zi,zi,zi,z1f,zi,zi,zi,z2t,trivial⟩) ⟨?_,?_,?_,?_,?_,?_,?_,?_,?_,trivial⟩ fun al F=>?_;intro l am b n hd
 exact zf rfl rfl rfl (zo (z8 (n 7 rfl)));intro l an b n hd;exact zf rfl rfl rfl (zo (ui z4v rfl (n 3 rfl) ((h5.mono d).mono b) ((u.mono (k.trans d)).mono b)));intro l ao b n hd;exact zf rfl rfl rfl (zo (z8 (n 1 rfl)));intro l ap b n hd;exact zf rfl rfl rfl (zo (z8 (n 8 rfl)))
 rintro l aq b n ⟨x,G,_⟩;exact zf rfl rfl rfl (z13 (i:=c.toNat) z3y (x rfl) (jo ((t.mono (k.trans d)).mono b)) (zt (G rfl) C.1) (qd C));rintro l ar b n ⟨x,_⟩;exact zf rfl rfl rfl (jm (nz ty3 rfl (x rfl)) (fun _ _ h=>ql.1 h));intro l av b n hd;exact zf rfl rfl rfl (zo (z8 (n 2 rfl)))
 rintro l aw b n ⟨x,G,d2,_⟩;have O:l 16=j:=x rfl;have P:l 20=(vi (ix s c)):=G rfl;have Q:l 21=e:=d2 rfl
 exact zf rfl rfl rfl (kz (vs:=[j,(vi (ix s c)),e]) zry (by simp only [List.map,ev,O,P,Q]<;>rfl) (z0v ((u.mono (k.trans d)).mono b) ((y.mono (k.trans d)).mono b) L) (fun _ _ h=>h));rintro l ax b n ⟨x,G,d2,_⟩;have S:l 15=q:=x rfl;have U:l 22=(vi w):=G rfl
 exact zf rfl rfl rfl (kz (vs:=[q,(vi w)]) qaw (by simp only [List.map,ev,S,U]<;>rfl) (zgg (B.mono b) M) (fun _ _ h=>h));intro ay V az W aA X aB Y aC aD aE Z aF aa aG ab H ac;obtain rfl:=Eq.symm V;obtain rfl:=Eq.symm W;obtain rfl:=Eq.symm X;obtain rfl:=Eq.symm Y;obtain rfl:=Eq.symm Z
 obtain rfl:=Eq.symm aa;obtain rfl:=Eq.symm ab;refine zk H (ze (q8 (zh (vi c) ?_)));obtain⟨ad,a⟩:=zg a;refine zx (ja rfl rfl ad) (zk (vi (c+1)) (ze ?_));exact⟨dkt,F,ji,(p,E,c+1,H),Nat.lt_succ_self _,⟨rfl,rfl,trivial⟩,prm,a,ac,trivial⟩;refine jk ?_
 exact⟨dkt,d,ji,(z,q),⟨rfl,trivial⟩,prm,(Option.some.inj a).symm,B,trivial⟩;rintro⟨K,v9⟩ aH R7 af ⟨rfl,ag,_⟩;refine zq (zh v9 (zk v9 (ze (qp ?_))));obtain rfl:=Option.some.inj o;refine qm (D:=[]) (J:=[]) (rs:=[.tmp 6]) (vs:=[v9]) (k.trans af) rfl rfl ⟨rfl,trivial⟩ ?_;exact⟨rfl,ag⟩
theorem q9y:Enters prog 18:=enters_of func18 rfl (by kernel_rfl)
theorem zan{N:Nat}{R:RH}{m:Mach}{u:Value}(o:VRep (kv false false) R u m){y:(List Int)}{j:Value}(s:VRep (tSl false (zz .i64)) R j y){response:(List Int)}{a:Value}(k:VRep (tSl false (zz .i64)) R a response){r:Int×Int}(e:z1j N m y response=some r):CallP prog 21 #[u,j,a] R (fun v R'=>v= .tuple #[(vi r.1),(vi r.2)]):=by
 refine qw (args:=[u,j,a]) func21 rfl rfl fun A=>?_;rw [z1j] at e;refine zq (vv (T:=(kv false false)) rfl rfl rfl o fun v1 R3 i W X=>?_);refine zk (vi 0) (zk (vi 0) (jb (zk (vi (-1)) (ze ?_))));obtain⟨C,b,e⟩:=zu e
 refine qz (γ:=Int) (rs [6,37]) (fun g=>[(8,(vi g))]) (fun g=>[]++A) (fun g R=>C=Ex.go g∧True) ?_ ?_
 refine zq (zk (vi 0) (ze (qj (jf (γ:=Nat×Int×Int) (rs [6,37]) (fun g=>[(8,(vi g.2.1)),(9,(vi g.2.2))]) (fun g=>[]++A) (fun g R=>ry N m y response g.1 g.2.1 g.2.2=some C∧True) (fun g=>g.1) (N,(-1),0) prm ⟨b,trivial⟩ ?_))));clear b;rintro⟨q,n,l⟩ Y Z c ⟨b,_⟩;rcases q with _|q
 exact j5 b;replace b:ry N m y response (q+1) n l=some C:=b;rw [ry] at b;refine qc (zq (zh (vi l) (jq rfl xh wm rfl (X.mono c) fun aa E=>?_)));refine jc rfl z4w rfl E fun ab F=>?_
 refine zx (j4 rfl underlying26 rfl (jo F)) (zx (jg rfl rfl) (ze (zy rfl b (fun b=>?_) (fun b=>?_))));refine qi ?_;obtain⟨G,d,b⟩:=zu b;refine qz (γ:=Int) (rs [6,9,10,11,18,37]) (fun g=>[(8,(vi g))]) (fun g=>[]++A) (fun g R=>G=Ex.go g∧True) ?_ ?_
 refine qj (qc (zq (zx (ui z4v rfl rfl (W.mono c) (o.mono (i.trans c))) (zh (vi l) (zh j ?_)))));obtain⟨ac,H,d⟩:=zu d;refine jh rfl zu8 rfl (z3d (o.mono (i.trans c)) (s.mono (i.trans c)) H) fun ad ae f I=>?_;refine zh a ?_;obtain⟨af,K,d⟩:=zu d
 refine jh rfl q86 rfl (zav I (k.mono ((i.trans c).trans f)) K) fun ag ah h L=>?_;obtain rfl:=L;refine zx (fo rfl) (ze (zy rfl d (fun d=>?_) (fun d=>?_)));refine jk ?_;exact⟨dkt,(f.trans h),ji,n,⟨rfl,trivial⟩,prm,(Option.some.inj d).symm,trivial⟩
 refine qi (zq (zx (ui z4v rfl rfl (W.mono ((c.trans f).trans h)) (o.mono (((i.trans c).trans f).trans h))) (zh (vi l) (zh j ?_))));obtain⟨p,M,d⟩:=zu d
 refine jh rfl zry rfl (z0v (o.mono (((i.trans c).trans f).trans h)) (s.mono (((i.trans c).trans f).trans h)) M) fun ai aj t O=>?_;obtain rfl:=O
 refine zk (vi p) (ze (qc (zq (jd (v:=(vi n)) rfl (z8 rfl) (jd rfl (u6 rfl rfl) (jd (v:=(.bool (decide (n≠(-1))))) rfl (z8 rfl) (qo rfl rfl rfl rfl (fun z=>qf (v:=(vi n)) (z8 rfl)) fun ak P=>?_)))))));refine qo rfl rfl rfl rfl (fun z=>qf (v:=(vi p)) (z8 rfl)) fun al Q=>?_
 refine qo rfl rfl rfl rfl (fun z=>qf (u6 (P.1 (zl rfl z)) (Q.1 (zl rfl z)))) fun am S=>?_;refine jd rfl (uw rfl (fun hb=>(S.1 (zl rfl hb))) rfl) (ze (zy rfl d (fun d=>?_) (fun d=>?_)));refine zq (zk (vi 0) (zk (vi 7) (ze (qp ?_))));replace b:=z02 d b;replace e:=z02 b e
 obtain rfl:=Option.some.inj e;refine qm (D:=[]) (J:=[]) (rs:=[.tmp 6,.tmp 7]) (vs:=[(vi 0),(vi 7)]) ((((i.trans c).trans f).trans h).trans t) rfl rfl ⟨rfl,rfl,trivial⟩ ?_;exact⟨rfl,rfl⟩;refine qi (q8 (zh (vi p) (zk (vi p) (ze ?_))))
 exact⟨dkt,((f.trans h).trans t),ji,p,⟨rfl,trivial⟩,prm,(Option.some.inj d).symm,trivial⟩;rintro U ao ap w ⟨rfl,_⟩;replace b:=z1c b;refine q8 (zh (vi l) ?_);obtain⟨V,b⟩:=zg b;refine zx (ja rfl rfl V) (zk (vi (l+1)) (ze ?_))
 exact⟨dkt,w,ji,(q,U,l+1),Nat.lt_succ_self _,⟨rfl,rfl,trivial⟩,prm,b,trivial⟩;refine jk ?_;exact⟨dkt,c,ji,n,⟨rfl,trivial⟩,prm,(Option.some.inj b).symm,trivial⟩;rintro B aq R8 x ⟨rfl,_⟩;replace e:=z1c e;refine qc (zq (zh (vi B) (zx (xk rfl rfl) (ze (zy rfl e (fun e=>?_) (fun e=>?_))))))
 refine zq (zk (vi 0) (zk (vi 7) (ze (qp ?_))));obtain rfl:=Option.some.inj e;refine qm (D:=[]) (J:=[]) (rs:=[.tmp 6,.tmp 7]) (vs:=[(vi 0),(vi 7)]) (i.trans x) rfl rfl ⟨rfl,rfl,trivial⟩ ?_;exact⟨rfl,rfl⟩;refine qi (zq (zh (vi B) (zk (vi B) (zk (vi 0) (ze (qp ?_))))))
 obtain rfl:=Option.some.inj e;refine qm (D:=[]) (J:=[]) (rs:=[.tmp 6,.tmp 7]) (vs:=[(vi B),(vi 0)]) (i.trans x) rfl rfl ⟨rfl,rfl,trivial⟩ ?_;exact⟨rfl,rfl⟩
theorem q8q:Enters prog 21:=enters_of func21 rfl (by kernel_rfl)
end GV
end Go.Proofs.YtjmlpkkbmnjhcaaGreat
