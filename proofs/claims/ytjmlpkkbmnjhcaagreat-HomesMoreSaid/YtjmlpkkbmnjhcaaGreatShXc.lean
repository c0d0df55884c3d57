import Derived.Test.YtjmlpkkbmnjhcaaGreatShWg
import Derived.Test.YtjmlpkkbmnjhcaaGreatShXa
import Derived.Test.YtjmlpkkbmnjhcaaGreatRows
set_option linter.unusedVariables false
set_option linter.unusedSimpArgs false
set_option linter.unusedSectionVars false
namespace Go.Proofs.YtjmlpkkbmnjhcaaGreat
namespace GV
open _root_.Go.Proofs.Tryz
open Go.IntWalk
set_option maxRecDepth 100000
set_option maxHeartbeats 20000000
theorem z7m{N:Nat}{R:RH}{m:Mach}{e:Value}(n:VRep (kv false false) R e m){x:(List Int)}{d:Value}(p:VRep (tSl false (zz .i64)) R d x){r:Bool}(f:o8 N m x=some r):CallP prog 14 #[e,d] R (fun v R'=>v=(.bool r)):=by
 refine qw (args:=[e,d]) func14 rfl rfl fun A=>?_;rw [o8] at f;refine zq (vv (T:=(kv false false)) rfl rfl rfl n fun v1 R3 i Y h2=>?_);refine zk (.bool false) (ze ?_);obtain⟨y,a,f⟩:=zu f;refine qz (γ:=Unit) (rs [4,21]) (fun g=>[]) (fun g=>[]++A) (fun g R=>y=Ex.go g∧True) ?_ ?_
 refine zq (zk (vi 0) (ze (qj (jf (γ:=Nat×Int) (rs [4,21]) (fun g=>[(5,(vi g.2))]) (fun g=>[]++A) (fun g R=>ol N m x g.1 g.2=some y∧True) (fun g=>g.1) (N,0) prm ⟨a,trivial⟩ ?_))));clear a;rintro⟨o,j⟩ ab ac b ⟨a,_⟩;rcases o with _|o;exact j5 a
 replace a:ol N m x (o+1) j=some y:=a;rw [ol] at a;refine qc (zq (zh (vi j) (jq rfl xh wm rfl (h2.mono b) fun ad z=>?_)));refine jc rfl z4w rfl z fun ae B=>?_
 refine zx (j4 rfl underlying26 rfl (jo B)) (zx (jg rfl rfl) (ze (zy rfl a (fun a=>?_) (fun a=>?_))));refine qi (qc (qj (qc ?_)));obtain⟨s,C,a⟩:=zu a;obtain⟨t,E,a⟩:=zu a
 refine xq 8 [] [phX e,phX (vi j),phX d,phX (vi s),phX e,phX d,phX (vi t),phX (.bool (decide (s≠t)))] mixed (by kernel_rfl) (wz ⟨zi,zi,zi,zi,zi,zi,zi,zi,trivial⟩) ⟨?_,?_,?_,?_,?_,?_,?_,?_,trivial⟩ fun af q=>?_;intro l ag c k hd
 exact zf rfl rfl rfl (zo (ui z4v rfl (k 2 rfl) ((Y.mono b).mono c) ((n.mono (i.trans b)).mono c)));intro l ah c k hd;exact zf rfl rfl rfl (zo (z8 (k 5 rfl)));intro l ai c k hd;exact zf rfl rfl rfl (zo (z8 (k 1 rfl)));rintro l aj c k ⟨u,w,Z,_⟩;have F:l 13=e:=u rfl
 have G:l 14=(vi j):=w rfl;have H:l 15=d:=Z rfl;exact zf rfl rfl rfl (kz (vs:=[e,(vi j),d]) zry (by simp only [List.map,ev,F,G,H]<;>rfl) (z0v ((n.mono (i.trans b)).mono c) ((p.mono (i.trans b)).mono c) C) (fun _ _ h=>h));intro l ak c k hd
 exact zf rfl rfl rfl (zo (ui z4v rfl (k 2 rfl) ((Y.mono b).mono c) ((n.mono (i.trans b)).mono c)));intro l al c k hd;exact zf rfl rfl rfl (zo (z8 (k 1 rfl)));rintro l am c k ⟨u,w,Z,_⟩;have I:l 17=e:=u rfl;have K:l 18=d:=w rfl
 exact zf rfl rfl rfl (kz (vs:=[e,(vi 0),d]) zry (by simp only [List.map,ev,I,K]<;>rfl) (z0v ((n.mono (i.trans b)).mono c) ((p.mono (i.trans b)).mono c) E) (fun _ _ h=>h));rintro l an c k ⟨u,w,_⟩;exact zf rfl rfl rfl (zo (u6 (u rfl) (w rfl)))
 intro ao L ap M aq O ar P au Q av S aw U ax V;obtain rfl:=Eq.symm L;obtain rfl:=Eq.symm M;obtain rfl:=Eq.symm O;obtain rfl:=Eq.symm P;obtain rfl:=Eq.symm Q;obtain rfl:=Eq.symm S;obtain rfl:=Eq.symm U;obtain rfl:=Eq.symm V;refine ze (zy rfl a (fun a=>?_) (fun a=>?_));refine zq (zk (.bool false) (ze (qp ?_)))
 replace f:=z02 a f;obtain rfl:=Option.some.inj f;refine qm (D:=[]) (J:=[]) (rs:=[.tmp 4]) (vs:=[(.bool false)]) ((i.trans b).trans q) rfl rfl ⟨rfl,trivial⟩ ?_;exact⟨rfl,rfl⟩;refine qi (q8 (zh (vi j) ?_));obtain⟨W,a⟩:=zg a;refine zx (ja rfl rfl W) (zk (vi (j+1)) (ze ?_))
 exact⟨dkt,q,ji,(o,j+1),Nat.lt_succ_self _,⟨rfl,trivial⟩,prm,a,trivial⟩;refine jk ?_;exact⟨dkt,b,ji,(),trivial,prm,(Option.some.inj a).symm,trivial⟩;rintro o6 ay R8 X ⟨rfl,_⟩;replace f:=z1c f;refine zq (zk (.bool true) (ze (qp ?_)));obtain rfl:=Option.some.inj f
 refine qm (D:=[]) (J:=[]) (rs:=[.tmp 4]) (vs:=[(.bool true)]) (i.trans X) rfl rfl ⟨rfl,trivial⟩ ?_;exact⟨rfl,rfl⟩
theorem q5o:Enters prog 14:=enters_of func14 rfl (by kernel_rfl)
theorem z5r{N:Nat}{R:RH}{m:Mach}{j:Value}(s:VRep (kv false false) R j m){M:(List Int)}{f:Value}(w:VRep (tSl false (zz .i64)) R f M){r:Bool}(t:vk N m M=some r):CallP prog 15 #[j,f] R (fun v R'=>v=(.bool r)):=by
 refine qw (args:=[j,f]) func15 rfl rfl fun A=>?_;rw [vk] at t;refine zq (vv (T:=(kv false false)) rfl rfl rfl s fun v1 R3 o X h2=>?_);refine zk (.bool false) (ze ?_);obtain⟨Y,i,t⟩:=zu t;refine qz (γ:=Unit) (rs [4,39]) (fun g=>[]) (fun g=>[]++A) (fun g R=>Y=Ex.go g∧True) ?_ ?_
 refine zq (zk (vi 0) (ze (qj (jf (γ:=Nat×Int) (rs [4,39]) (fun g=>[(5,(vi g.2))]) (fun g=>[]++A) (fun g R=>af N m M g.1 g.2=some Y∧True) (fun g=>g.1) (N,0) prm ⟨i,trivial⟩ ?_))));clear i;rintro⟨G,k⟩ aO aP b ⟨i,_⟩;rcases G with _|G;exact j5 i
 replace i:af N m M (G+1) k=some Y:=i;rw [af] at i;refine qc (zq (zh (vi k) (jq rfl xh wm rfl (h2.mono b) fun aQ Z=>?_)));refine jc rfl z4w rfl Z fun aR aa=>?_
 refine zx (j4 rfl underlying26 rfl (jo aa)) (zx (jg rfl rfl) (ze (zy rfl i (fun i=>?_) (fun i=>?_))));refine qi ?_;obtain⟨K,c,i⟩:=zu i;refine qz (γ:=Unit) (rs [4,5,6,7,14,39]) (fun g=>[]) (fun g=>[]++A) (fun g R=>K=Ex.go g∧True) ?_ ?_
 refine qj (zq (zk (vi 0) (ze (qj (jf (γ:=Nat×Int) (rs [4,5,6,7,14,39]) (fun g=>[(6,(vi g.2))]) (fun g=>[]++A) (fun g R=>eu N m M k g.1 g.2=some K∧True) (fun g=>g.1) (N,0) prm ⟨c,trivial⟩ ?_)))));clear c;rintro⟨H,q⟩ aS aT d ⟨c,_⟩;rcases H with _|H;exact j5 c
 replace c:eu N m M k (H+1) q=some K:=c;rw [eu] at c;refine qc (zq (zh (vi q) (zh (vi k) (zx (jg rfl rfl) (ze (zy rfl c (fun c=>?_) (fun c=>?_)))))));refine qi (qc (qj (qc ?_)));obtain⟨ab,ac,c⟩:=zu c;obtain⟨ad,ae,c⟩:=zu c
 obtain⟨e,ag,c⟩:=zu c;obtain⟨y,ah,c⟩:=zu c;obtain⟨z,ai,c⟩:=zu c
 refine xq 20 [] [phX j,phX (vi k),phX f,phR (tSl false (zz .i64)) ab,phX j,phX (vi q),phX f,phR (tSl false (zz .i64)) ad,phX (.bool e),phX (.bool e),phG (true&&(e==true)) (phX j),phG (true&&(e==true)) (phX (vi k)),phG (true&&(e==true)) (phX f),phG (true&&(e==true)) (phX (vi (y.getD default))),phG (true&&(e==true)) (phX j),phG (true&&(e==true)) (phX (vi q)),phG (true&&(e==true)) (phX f),phG (true&&(e==true)) (phX (vi (z.getD default))),phG (true&&(e==true)) (phX (.bool (decide ((y.getD default)≠(z.getD default))))),phX (.bool (e&&(decide ((y.getD default)≠(z.getD default)))))] mixed (by kernel_rfl) (wz ⟨zi,zi,zi,z2t,zi,zi,zi,z2t,zi,zi,(qy zi),(qy zi),(qy zi),(qy zi),(qy zi),(qy zi),(qy zi),(qy zi),(qy zi),zi,trivial⟩) ⟨?_,?_,?_,?_,?_,?_,?_,?_,?_,?_,?_,?_,?_,?_,?_,?_,?_,?_,?_,?_,trivial⟩ fun aU I=>?_
 intro l aV a n hd;exact zf rfl rfl rfl (zo (ui z4v rfl (n 2 rfl) ((X.mono (b.trans d)).mono a) ((s.mono ((o.trans b).trans d)).mono a)));intro l aW a n hd;exact zf rfl rfl rfl (zo (z8 (n 5 rfl)));intro l aX a n hd;exact zf rfl rfl rfl (zo (z8 (n 1 rfl)));rintro l aY a n ⟨p,x,E,_⟩
 have aj:l 19=j:=p rfl;have ak:l 20=(vi k):=x rfl;have al:l 21=f:=E rfl;exact zf rfl rfl rfl (kz (vs:=[j,(vi k),f]) zu8 (by simp only [List.map,ev,aj,ak,al]<;>rfl) (z3d ((s.mono ((o.trans b).trans d)).mono a) ((w.mono ((o.trans b).trans d)).mono a) ac) (fun _ _ h=>h))
 intro l aZ a n hd;exact zf rfl rfl rfl (zo (ui z4v rfl (n 2 rfl) ((X.mono (b.trans d)).mono a) ((s.mono ((o.trans b).trans d)).mono a)));intro l a0 a n hd;exact zf rfl rfl rfl (zo (z8 (n 6 rfl)));intro l a1 a n hd;exact zf rfl rfl rfl (zo (z8 (n 1 rfl)));rintro l a2 a n ⟨p,x,E,d3,_⟩
 have an:l 23=j:=p rfl;have ao:l 24=(vi q):=x rfl;have ap:l 25=f:=E rfl;exact zf rfl rfl rfl (kz (vs:=[j,(vi q),f]) zu8 (by simp only [List.map,ev,an,ao,ap]<;>rfl) (z3d ((s.mono ((o.trans b).trans d)).mono a) ((w.mono ((o.trans b).trans d)).mono a) ae) (fun _ _ h=>h))
 rintro l a3 a n ⟨p,x,E,_⟩;exact zf rfl rfl rfl (kz (vs:=[(l 22),(l 26)]) q86 rfl (zav (p rfl) (x rfl) ag) (fun _ _ h=>h));rintro l a4 a n ⟨p,x,_⟩;exact zf rfl rfl rfl (zo (z8 (p rfl)));rintro l aE a n ⟨p,_⟩
 exact zw (Gj:=true) (Bj:=e) rfl rfl rfl (jr (p rfl)) rfl (fun F u=>zo (ui z4v rfl (n 2 rfl) ((X.mono (b.trans d)).mono a) ((s.mono ((o.trans b).trans d)).mono a)));rintro l aF a n ⟨p,_⟩;exact zw (Gj:=true) (Bj:=e) rfl rfl rfl (jr (p rfl)) rfl (fun F u=>zo (z8 (n 5 rfl)));rintro l aG a n ⟨p,_⟩
 exact zw (Gj:=true) (Bj:=e) rfl rfl rfl (jr (p rfl)) rfl (fun F u=>zo (z8 (n 1 rfl)));rintro l B a n ⟨p,x,E,d3,d4,_⟩;have O:phG (true&&(e==true)) (phX j) (l 29) B:=p rfl;have P:phG (true&&(e==true)) (phX (vi k)) (l 30) B:=x rfl;have Q:phG (true&&(e==true)) (phX f) (l 31) B:=E rfl
 exact zw (Gj:=true) (Bj:=e) rfl rfl rfl (jr (d3 rfl)) rfl (fun F u=>kz (vs:=[j,(vi k),f]) zry (by simp only [List.map,ev,(show l 29=j from O.1 (zl rfl u)),(show l 30=(vi k) from P.1 (zl rfl u)),(show l 31=f from Q.1 (zl rfl u))]<;>rfl) ((by have L:=(sj ah (zl F u));exact z0v ((s.mono ((o.trans b).trans d)).mono a) ((w.mono ((o.trans b).trans d)).mono a) L)) (fun _ _ h=>h))
 rintro l aI a n ⟨p,_⟩;exact zw (Gj:=true) (Bj:=e) rfl rfl rfl (jr (p rfl)) rfl (fun F u=>zo (ui z4v rfl (n 2 rfl) ((X.mono (b.trans d)).mono a) ((s.mono ((o.trans b).trans d)).mono a)));rintro l aJ a n ⟨p,_⟩;exact zw (Gj:=true) (Bj:=e) rfl rfl rfl (jr (p rfl)) rfl (fun F u=>zo (z8 (n 6 rfl)))
 rintro l aK a n ⟨p,_⟩;exact zw (Gj:=true) (Bj:=e) rfl rfl rfl (jr (p rfl)) rfl (fun F u=>zo (z8 (n 1 rfl)));rintro l C a n ⟨p,x,E,d3,d4,_⟩;have S:phG (true&&(e==true)) (phX j) (l 33) C:=p rfl;have U:phG (true&&(e==true)) (phX (vi q)) (l 34) C:=x rfl
 have V:phG (true&&(e==true)) (phX f) (l 35) C:=E rfl
 exact zw (Gj:=true) (Bj:=e) rfl rfl rfl (jr (d4 rfl)) rfl (fun F u=>kz (vs:=[j,(vi q),f]) zry (by simp only [List.map,ev,(show l 33=j from S.1 (zl rfl u)),(show l 34=(vi q) from U.1 (zl rfl u)),(show l 35=f from V.1 (zl rfl u))]<;>rfl) ((by have L:=(sj ai (zl F u));exact z0v ((s.mono ((o.trans b).trans d)).mono a) ((w.mono ((o.trans b).trans d)).mono a) L)) (fun _ _ h=>h))
 rintro l aL a n ⟨p,x,E,_⟩;exact zw (Gj:=true) (Bj:=e) rfl rfl rfl (jr (E rfl)) rfl (fun F u=>zo (u6 (show l 32=(vi (y.getD default)) from(p rfl).1 (zl rfl u)) (show l 36=(vi (z.getD default)) from(x rfl).1 (zl rfl u))));rintro l aM a n ⟨p,x,_⟩
 exact zf rfl rfl rfl (zo (uw (p rfl) (fun hb=>(show l 37=(.bool (decide ((y.getD default)≠(z.getD default)))) from(x rfl).1 (zl rfl hb))) rfl));intro a6 aq a7 ar a8 au a9 ba bb av bc aw be ax bf bg bh ay bi az bj bk bl bm bn bo bp bq br bs bt bu bv bw bx bz bA bB bC aA;obtain rfl:=Eq.symm aq;obtain rfl:=Eq.symm ar
 obtain rfl:=Eq.symm au;obtain rfl:=Eq.symm av;obtain rfl:=Eq.symm aw;obtain rfl:=Eq.symm ax;obtain rfl:=Eq.symm ay;obtain rfl:=Eq.symm az;obtain rfl:=Eq.symm aA;refine ze (zy rfl c (fun c=>?_) (fun c=>?_));refine zq (zk (.bool false) (ze (qp ?_)));replace i:=z02 c i;replace t:=z02 i t;obtain rfl:=Option.some.inj t
 refine qm (D:=[]) (J:=[]) (rs:=[.tmp 4]) (vs:=[(.bool false)]) (((o.trans b).trans d).trans I) rfl rfl ⟨rfl,trivial⟩ ?_;exact⟨rfl,rfl⟩;refine qi (q8 (zh (vi q) ?_));obtain⟨aB,c⟩:=zg c;refine zx (ja rfl rfl aB) (zk (vi (q+1)) (ze ?_))
 exact⟨dkt,I,ji,(H,q+1),Nat.lt_succ_self _,⟨rfl,trivial⟩,prm,c,trivial⟩;refine jk ?_;exact⟨dkt,d,ji,(),trivial,prm,(Option.some.inj c).symm,trivial⟩;rintro bD bE bF W ⟨rfl,_⟩;replace i:=z1c i;refine q8 (zh (vi k) ?_);obtain⟨aC,i⟩:=zg i
 refine zx (ja rfl rfl aC) (zk (vi (k+1)) (ze ?_));exact⟨dkt,W,ji,(G,k+1),Nat.lt_succ_self _,⟨rfl,trivial⟩,prm,i,trivial⟩;refine jk ?_;exact⟨dkt,b,ji,(),trivial,prm,(Option.some.inj i).symm,trivial⟩;rintro o6 bG R8 aD ⟨rfl,_⟩;replace t:=z1c t;refine zq (zk (.bool true) (ze (qp ?_)))
 obtain rfl:=Option.some.inj t;refine qm (D:=[]) (J:=[]) (rs:=[.tmp 4]) (vs:=[(.bool true)]) (o.trans aD) rfl rfl ⟨rfl,trivial⟩ ?_;exact⟨rfl,rfl⟩
theorem q28:Enters prog 15:=enters_of func15 rfl (by kernel_rfl)
end GV
end Go.Proofs.YtjmlpkkbmnjhcaaGreat
