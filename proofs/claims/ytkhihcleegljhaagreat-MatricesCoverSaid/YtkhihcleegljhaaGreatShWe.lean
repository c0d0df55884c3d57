import Derived.Test.YtkhihcleegljhaaGreatShWd
import Derived.Test.YtkhihcleegljhaaGreatRows
set_option linter.unusedVariables false
set_option linter.unusedSimpArgs false
namespace Go.Proofs.YtkhihcleegljhaaGreat
namespace GV
open _root_.Go.Proofs.Tryz
open Go.IntWalk
set_option maxRecDepth 100000
set_option maxHeartbeats 20000000
theorem z7k{N:Nat}{R:RH}{x:Sa}{m:Value}(G:VRep (zw false false) R m x){is:Int→Option Bool}{d:Value}(s:FOk1 prog R d (zx .i64) z3m is){r:(List Int)}(h:rz N x is=some r):CallG prog 48 #[m,d] R [] (fun v R' O'=> ∃ u0_0 g0_0,v=u0_0∧O'=[g0_0]∧ORep (zx .i64) R' g0_0 u0_0 r):=by
 refine p8 (args:=[m,d]) func48 rfl rfl fun A=>?_;rw [rz] at h;refine zn (xu (T:=(zw false false)) rfl rfl rfl G fun v1 R3 t h5 h2=>?_);refine zh vs0 (z8 ?_);obtain⟨E,a,h⟩:=zq h
 refine qi (γ:=(List Int)×Value×Frag) (rs [4,20]) (fun g=>[(4,g.2.1)]) (fun g=>[g.2.2]++A) (fun g R=>E=g.1∧ORep (zx .i64) R g.2.2 g.2.1 g.1∧True) ?_ ?_;refine zn (pq rfl z0y jh rfl h2 fun af H=>?_);refine j4 rfl z8d rfl H fun ag I=>?_
 refine q8 (qw rfl underlying38 rfl (jr I)) (zb (vi 0) (z8 (qa (z6a ?_))))
 refine qy (γ:=Nat×(List Int)×Int×Value×Frag) (rs [4,6,9,20]) (fun g=>[(4,g.2.2.2.1),(9,(vi g.2.2.1))]) (fun g=>[g.2.2.2.2]++A) (fun g R=>yn N x is g.1 g.2.1 g.2.2.1=some E∧ORep (zx .i64) R g.2.2.2.2 g.2.2.2.1 g.2.1∧True) (fun g=>g.1) (N,[],0,vs0,emp) prm ⟨a,(z3h (T:=(zx .i64))),trivial⟩ ?_
 clear a;rintro⟨j,f,b,n,u⟩ ah ai k ⟨a,o,_⟩;rcases j with _|j;exact qm a;replace a:yn N x is (j+1) f b=some E:=a;rw [yn] at a;refine zn (q8 (ja rfl rfl) (z8 (zy (zz rfl a (fun a=>?_) (fun a=>?_)))));refine qb ?_;obtain⟨p,c,a⟩:=zq a
 refine qi (γ:=(List Int)×Value×Frag) (rs [4,6,11,19]) (fun g=>[(4,g.2.1)]) (fun g=>[g.2.2]++A) (fun g R=>p=g.1∧ORep (zx .i64) R g.2.2 g.2.1 g.1∧True) ?_ ?_;refine qa (zn (zb (vi b) (zh (vi b) (qx (zb d (zb (vi b) ?_))))));obtain⟨aj,K,c⟩:=zq c
 refine z88 rfl rfl rfl ((s.mono (t.trans k)) _ (RH.le.refl _) b _ _ (qc.2 rfl) K) fun ak al e L=>?_;obtain rfl:=rq.1 L;refine z8 (zz rfl c (fun c=>?_) (fun c=>?_))
 refine zu (zb n (zb (vi b) (dm (T:=(zx .i64)) (X:=([b]:List Int)) (ps:=[(0,(vi b))]) (css:=[[(vi b)]]) rfl underlying40 zo3 rfl rfl (ji ⟨rfl,trivial⟩) rfl rfl (by decide) fun M am q O=>?_)));refine ku (i:=0) rfl O fun P l Q=>?_
 have S:VRep (tSl true (zx .i64)) P M ([b]:List Int):=(z0m Q q);obtain⟨w,c⟩:=ze c;refine z10 (i:=0) (X:=f) (Y:=([b]:List Int)) rfl underlying40 zo3 rfl rfl rfl (o.mono (e.trans l)) (jr (Sub.v (B:=(tSl false (zx .i64))) (uw Sub.refl (fun _=>rfl)) S)) w.1 w.2 fun y U V=>?_;refine zh y (z8 ?_)
 exact⟨dkt,(e.trans l),jc,((f++([b]:List Int)),y,U),⟨rfl,trivial⟩,prm,(Option.some.inj c).symm,V,trivial⟩;refine qb ?_;exact⟨dkt,e,jc,(f,n,u),⟨rfl,trivial⟩,prm,(Option.some.inj c).symm,(o.mono e),trivial⟩;rintro⟨p,W,Z⟩ an ao z ⟨rfl,aa,_⟩;refine zu ?_;obtain⟨ab,a⟩:=ze a
 refine q8 (qo rfl rfl ab) (zb (vi (b+1)) (z8 ?_));exact⟨dkt,z,jc,(j,p,b+1,W,Z),Nat.lt_succ_self _,⟨rfl,rfl,trivial⟩,prm,a,aa,trivial⟩;refine jb ?_;exact⟨dkt,k,jc,(f,n,u),⟨rfl,trivial⟩,prm,(Option.some.inj a).symm,o,trivial⟩;rintro⟨E,F,C⟩ ap R7 ac ⟨rfl,ad,_⟩
 refine zn (zb F (zh F (z8 (qh ?_))));obtain rfl:=Option.some.inj h;refine vk (D:=[]) (J:=[]) (O':=[C]) (rs:=[.tmp 4]) (vs:=[F]) (t.trans ac) ((pk 0 rfl (List.Perm.refl _))) rfl ⟨rfl,trivial⟩ ?_;exact⟨F,C,rfl,rfl,ad⟩
theorem z6d{N:Nat}{R:RH}{x:Sa}{I:Value}(s:VRep (zw false false) R I x){rows:(List Int)}{f:Value}(p:VRep (tSl false (zx .i64)) R f rows){r:(List Int)}(l:lm N x rows=some r):CallG prog 51 #[I,f] R [] (fun v R' O'=> ∃ u0_0 g0_0,v=u0_0∧O'=[g0_0]∧ORep (zx .i64) R' g0_0 u0_0 r∧capOf u0_0=r.length):=by
 refine p8 (args:=[I,f]) func51 rfl rfl fun A=>?_;rw [lm] at l;refine zn (xu (T:=(zw false false)) rfl rfl rfl s fun v1 R3 o h5 h2=>?_);refine zh vs0 (qx (q8 (jq z1i rfl rfl h5 (s.mono o)) ?_));obtain⟨y6,c7,l⟩:=zq l
 refine j3 rfl zmt rfl (fe (s.mono o) c7) fun v8 az k h9=>?_;obtain rfl:=h9;obtain⟨w,l⟩:=ze l;refine zbf (T:=(zx .i64)) (m:=y6.toNat) (c:=y6.toNat) rfl underlying40 zo3 (zi rfl w.1) (zi rfl w.1) (Nat.le_refl _) (ze3 w) (ze0 w) fun d ac K ad=>?_;refine zh d (z8 ?_)
 obtain⟨y,b,l⟩:=zq l;refine qi (γ:=(List Int)×Frag) (rs [7,8,9,10,13,35]) (fun g=>[]) (fun g=>[g.2]++A) (fun g R=>y=g.1∧ORep (zx .i64) R g.2 d g.1∧capOf d=g.1.length∧True) ?_ ?_
 refine zn (zb f (q8 (qw rfl underlying40 rfl (jr (p.mono (o.trans k)))) (zb (vi 0) (z8 (qa (qy (γ:=Nat×Int×(List Int)×Frag) (rs [7,8,9,10,15,35]) (fun g=>[(15,(vi g.2.1))]) (fun g=>[g.2.2.2]++A) (fun g R=>yu N x rows g.1 g.2.1 g.2.2.1=some y∧ORep (zx .i64) R g.2.2.2 d g.2.2.1∧capOf d=g.2.2.1.length∧True) (fun g=>g.1) (N,0,(mk y6 (0:Int)),ac) prm ⟨b,ad,(K.trans List.length_replicate.symm),trivial⟩ ?_))))))
 clear b;rintro⟨z,q,L,P⟩ aB aC n ⟨b,Q,E,_⟩;rcases z with _|z;exact qm b;replace b:yu N x rows (z+1) q L=some y:=b;rw [yu] at b;refine zn (q8 (ja rfl rfl) (z8 (zy (zz rfl b (fun b=>?_) (fun b=>?_)))));refine qb ?_
 obtain⟨t,a,b⟩:=zq b;refine qi (γ:=(List Int)×Frag) (rs [7,8,9,10,17,34]) (fun g=>[]) (fun g=>[g.2]++A) (fun g R=>t=g.1∧ORep (zx .i64) R g.2 d g.1∧capOf d=g.1.length∧True) ?_ ?_;refine qa (zn ?_);obtain⟨S,a⟩:=ze a
 refine kv (i:=q.toNat) rfl z0p rfl (jr (p.mono ((o.trans k).trans n))) (zi rfl S.1) (q9 S) fun aD ae=>?_;refine j4 rfl ty3 rfl ae fun aE af=>?_;obtain rfl:=qc.1 af
 refine zh (vi (ix rows q)) (qx (q8 (jq z1i rfl rfl (h5.mono (k.trans n)) (s.mono ((o.trans k).trans n))) (zb (vi (ix rows q)) ?_)));obtain⟨h,ag,a⟩:=zq a;refine j3 rfl zkc rfl (oz (s.mono ((o.trans k).trans n)) ag) fun aF aG F U=>?_
 refine q8 (qw rfl underlying40 rfl (jr U)) (zb (vi 0) (z8 (qa (qy (γ:=Nat×Int×(List Int)×Frag) (rs [9,10,23,34]) (fun g=>[(23,(vi g.2.1))]) (fun g=>[g.2.2.2]++A) (fun g R=>yt N h g.1 g.2.1 g.2.2.1=some t∧ORep (zx .i64) R g.2.2.2 d g.2.2.1∧capOf d=g.2.2.1.length∧True) (fun g=>g.1) (N,0,L,P) prm ⟨a,(Q.mono F),E,trivial⟩ ?_))))
 clear a;rintro⟨B,e,C,ah⟩ aH aI G ⟨a,u,H,_⟩;rcases B with _|B;exact qm a;replace a:yt N h (B+1) e C=some t:=a;rw [yt] at a;refine zn (q8 (ja rfl rfl) (z8 (zy (zz rfl a (fun a=>?_) (fun a=>?_)))));refine qb (zy (qa (zn ?_)))
 obtain⟨V,a⟩:=ze a;refine kv (i:=e.toNat) rfl z0p rfl (jr (U.mono G)) (zi rfl V.1) (q9 V) fun aJ ai=>?_;refine j4 rfl ty3 rfl ai fun aK aj=>?_;obtain rfl:=qc.1 aj;refine zh (vi (ix h e)) (z8 (zu (zb d (zb (vi (ix h e)) ?_))));obtain⟨M,a⟩:=ze a
 refine z1v (i:=(ix h e).toNat) rfl z0p rfl u (zi rfl M.1) (q9 M) fun aL ak=>?_;refine z7x (i:=(ix h e).toNat) (j:=0) rfl ty3 u rfl rfl ak (q9 M) fun aM al=>?_;obtain rfl:=qc.1 al;obtain⟨am,a⟩:=ze a;refine q8 (qo rfl rfl am) ?_;obtain⟨O,a⟩:=ze a
 refine z1v (i:=(ix h e).toNat) rfl z0p rfl u (zi rfl O.1) (q9 O) fun aN an=>?_;refine z4t (i:=(ix h e).toNat) (j:=0) ty3 u rfl rfl an (q9 O) rfl (qc.2 rfl) fun ao ap=>?_;refine z8 (zu ?_);obtain⟨aq,a⟩:=ze a;refine q8 (qo rfl rfl aq) (zb (vi (e+1)) (z8 ?_))
 exact⟨dkt,(RH.le.refl _),jc,(B,e+1,(up C (ix h e) ((ix C (ix h e))+1)),ao),Nat.lt_succ_self _,⟨rfl,trivial⟩,prm,a,ap,(H.trans List.length_set.symm),trivial⟩;refine jb ?_;exact⟨dkt,(F.trans G),jc,(C,ah),trivial,prm,(Option.some.inj a).symm,u,H,trivial⟩;rintro⟨t,ar⟩ aO aP W ⟨rfl,au,X,_⟩;refine zu ?_
 obtain⟨av,b⟩:=ze b;refine q8 (qo rfl rfl av) (zb (vi (q+1)) (z8 ?_));exact⟨dkt,W,jc,(z,q+1,t,ar),Nat.lt_succ_self _,⟨rfl,trivial⟩,prm,b,au,X,trivial⟩;refine jb ?_;exact⟨dkt,n,jc,(L,P),trivial,prm,(Option.some.inj b).symm,Q,E,trivial⟩;rintro⟨y,Y⟩ aQ aR Z ⟨rfl,aw,aa,_⟩
 refine zn (zb d (zh d (z8 (qh ?_))));obtain rfl:=Option.some.inj l;refine vk (D:=[]) (J:=[]) (O':=[Y]) (rs:=[.tmp 4]) (vs:=[d]) ((o.trans k).trans Z) ((pk 0 rfl (List.Perm.refl _))) rfl ⟨rfl,trivial⟩ ?_;exact⟨d,Y,rfl,rfl,aw,aa⟩
theorem za9{N:Nat}{R:RH}{i:Int}{p0_:Sa}{a:Value}(d:PRep (zw false false) R a p0_){p1_:Int}{b:Value}(e:PRep (zx .i64) R b p1_){r:Bool}(c:z09 N i p0_ p1_=some r):CallP prog 53 #[(vi i),a,b] R (fun v R'=>v=(.bool r)):=by
 refine ql (args:=[(vi i),a,b]) func53 rfl rfl fun A=>?_;rw [z09] at c;refine zn (zh (.bool false) (qx (j4 rfl z1i rfl d fun m h=>?_)));refine zb (vi i) (j4 rfl ty3 rfl e fun n j=>?_);obtain rfl:=qc.1 j;obtain⟨g,k,c⟩:=zq c
 refine j3 rfl zp0 rfl (z1r h k) fun o p f l=>?_;obtain rfl:=l;refine zh (.bool g) (z8 (qh ?_));obtain rfl:=Option.some.inj c;refine qd (D:=[]) (J:=[]) (rs:=[.tmp 4]) (vs:=[(.bool g)]) f rfl rfl ⟨rfl,trivial⟩ ?_;exact⟨rfl,rfl⟩
theorem zsd:Enters prog 53:=enters_of func53 rfl (by kernel_rfl)
theorem zs7:Enters prog 52:=enters_of func52 rfl (by kernel_rfl)
theorem z6k{N:Nat}{R:RH}{s:List Int}{a:Value}{fF:Frag}(y:ORep (zx .i64) R fF a s){del:Int→Option Bool}{d:Value}(n:FOk1 prog R d (zx .i64) z3m del){r:(List Int)}(c:ik N s del=some r):CallG prog 52 #[a,d] R [fF] (fun v R' O'=> ∃ u0_0 g0_0,v=u0_0∧O'=[g0_0]∧ORep (zx .i64) R' g0_0 u0_0 r):=by
 refine p8 (args:=[a,d]) func52 rfl rfl fun A=>?_;rw [ik] at c;refine zn (zh vs0 (qx (zb a (zb d ?_))));obtain⟨z,c5,c⟩:=zq c
 refine z6s (cs:=[]) (vs:=[a,d]) (φ:=fun v=>v=(vi z)) rfl zq9 rfl rfl (fun R1 F O=>z4o (z7r ((zaj 0 rfl y F O):VRep (o5 (zx .i64)) R1 a s)) (n.mono F) c5) fun v6 h7=>?_;obtain rfl:=h7
 refine zh (vi z) (z8 (zy (zn (zb (vi z) (q8 (ry rfl rfl) (z8 (zz rfl c (fun c=>?_) (fun c=>?_))))))));refine zn (zb a (zh a (z8 (qh ?_))));obtain rfl:=Option.some.inj c
 refine vk (D:=[]) (J:=[]) (O':=[fF]) (rs:=[.tmp 4]) (vs:=[a]) (RH.le.refl _) ((pk 0 rfl (List.Perm.refl _))) rfl ⟨rfl,trivial⟩ ?_;exact⟨a,fF,rfl,rfl,y⟩;refine qb ?_;obtain⟨o,b,c⟩:=zq c
 refine qi (γ:=(Int×List Int)×Frag) (rs [5,8,14,36]) (fun g=>[(5,(vi g.1.1))]) (fun g=>[g.2]++A) (fun g R=>o=g.1∧ORep (zx .i64) R g.2 a g.1.2∧True) ?_ ?_;refine zn (zb (vi z) ?_);obtain⟨P,b⟩:=ze b
 refine q8 (qo rfl rfl P) (zh (vi (z+1)) (z8 (qa (qy (γ:=Nat×Int×Int×(List Int)×Frag) (rs [5,8,16,36]) (fun g=>[(5,(vi g.2.1)),(6,(vi g.2.2.1))]) (fun g=>[g.2.2.2.2]++A) (fun g R=>xq N del g.1 g.2.1 g.2.2.1 g.2.2.2.1=some o∧ORep (zx .i64) R g.2.2.2.2 a g.2.2.2.1∧True) (fun g=>g.1) (N,z,z+1,s,fF) prm ⟨b,y,trivial⟩ ?_))))
 clear b;rintro⟨q,h,e,k,G⟩ al am w ⟨b,m,_⟩;rcases q with _|q;exact qm b;replace b:xq N del (q+1) h e k=some o:=b;rw [xq] at b
 refine zy (zn (zb (vi e) (zb a (q8 (z2e rfl underlying40 rfl m) (q8 (ja rfl rfl) (z8 (zz rfl b (fun b=>?_) (fun b=>?_))))))));refine qb ?_;obtain⟨t,f,b⟩:=zq b
 refine qi (γ:=(Int×List Int)×Frag) (rs [5,6,7,8,22,36]) (fun g=>[(5,(vi g.1.1))]) (fun g=>[g.2]++A) (fun g R=>t=g.1∧ORep (zx .i64) R g.2 a g.1.2∧True) ?_ ?_;refine qa (zn (zb a (zb (vi e) ?_)));obtain⟨B,f⟩:=ze f
 refine z1v (i:=e.toNat) rfl z0p rfl m (zi rfl B.1) (q9 B) fun an Q=>?_;refine z7x (i:=e.toNat) (j:=0) rfl ty3 m rfl rfl Q (q9 B) fun ao S=>?_;obtain rfl:=qc.1 S;refine zh (vi (ix k e)) (qx (zb d (zb (vi (ix k e)) ?_)));obtain⟨ap,T,f⟩:=zq f
 refine z88 rfl rfl rfl ((n.mono w) _ (RH.le.refl _) (ix k e) _ _ (qc.2 rfl) T) fun aq ar l U=>?_;obtain rfl:=rq.1 U;refine q8 (nz rfl) (z8 (zz rfl f (fun f=>?_) (fun f=>?_)));refine zn (zb a (zb (vi h) (zb (vi (ix k e)) ?_)));obtain⟨C,f⟩:=ze f
 refine z1v (i:=h.toNat) rfl z0p rfl (m.mono l) (zi rfl C.1) (q9 C) fun au V=>?_;refine z4t (i:=h.toNat) (j:=0) ty3 (m.mono l) rfl rfl V (q9 C) rfl (qc.2 rfl) fun W X=>?_;refine z8 (zu (zb (vi h) ?_));obtain⟨Y,f⟩:=ze f
 refine q8 (qo rfl rfl Y) (zh (vi (h+1)) (z8 ?_));exact⟨dkt,l,jc,((h+1,(up k h (ix k e))),W),⟨rfl,trivial⟩,prm,(Option.some.inj f).symm,X,trivial⟩;refine qb ?_;exact⟨dkt,l,jc,((h,k),G),⟨rfl,trivial⟩,prm,(Option.some.inj f).symm,(m.mono l),trivial⟩;rintro⟨t,Z⟩ av aw H ⟨rfl,aa,_⟩
 refine zu (zb (vi e) ?_);obtain⟨ab,b⟩:=ze b;refine q8 (qo rfl rfl ab) (zh (vi (e+1)) (z8 ?_));exact⟨dkt,H,jc,(q,t.1,e+1,t.2,Z),Nat.lt_succ_self _,⟨rfl,rfl,trivial⟩,prm,b,aa,trivial⟩;refine jb ?_;exact⟨dkt,w,jc,((h,k),G),⟨rfl,trivial⟩,prm,(Option.some.inj b).symm,m,trivial⟩
 rintro⟨o,ac⟩ ax ay I ⟨rfl,K,_⟩;refine zn (zb a (zb (vi o.1) ?_));obtain⟨p,c⟩:=ze c;refine z3y rfl (zk (z9i (lo:=o.1.toNat) (hi:=o.2.length) z0p rfl K (.inr ⟨_,congrArg some (zi rfl p.1)⟩) (.inl ⟨rfl,rfl,rfl⟩) (z7n p) (z4q p))) fun az aA x ad=>?_;obtain rfl:=Eq.symm ad
 refine zb2 (Oc:=[ac]) (Or:=[]++A) (List.Perm.refl _) (zat (lo:=o.1.toNat) (hi:=o.2.length) rfl underlying40 zo3 (K.mono x) (z7n p) (z4q p) rfl) ?_;rintro aB aC ag ah ⟨rfl,L,rfl,rfl,M⟩;refine qx (zb a (zb (vi o.1) ?_));obtain⟨u,c⟩:=ze c
 refine za4 (v:=a) (lo:=(0:Int).toNat) (hi:=o.1.toNat) (mx:=(capOf a)) rfl z0p rfl M (.inl ⟨rfl,rfl⟩) (.inr ⟨_,congrArg some (zi rfl (zd0 u))⟩) (.inl ⟨rfl,rfl⟩) (z7n u) (z4q u) (Nat.le_trans (z4q u) (zbg M)) (Nat.le_refl _) fun E ae af=>?_;refine zh E (z8 (qh ?_));obtain rfl:=Option.some.inj c
 refine vk (D:=[]) (J:=[]) (O':=[L]) (rs:=[.tmp 4]) (vs:=[E]) (I.trans x) ((pk 0 rfl (List.Perm.refl _))) rfl ⟨rfl,trivial⟩ ?_;exact⟨E,L,rfl,rfl,ae⟩
theorem z6z{N:Nat}{R:RH}{x:List Int}{b:Value}{fJ:Frag}(d:ORep (zx .i64) R fJ b x){r:List Int}(a:slices_Sort_int N x=some r):CallG prog 55 #[b] R [fJ] (fun v R' O'=> ∃ c,v= .tuple #[]∧O'=[c]∧ORep (zx .i64) R' c b r):=by
 rw [slices_Sort_int] at a;obtain⟨e,a⟩:=ze a;obtain rfl:=Option.some.inj a;exact zga Tryz.lays189 d e
theorem zq2:Enters prog 55:=enters_of func55 rfl (by kernel_rfl)
theorem zaa{N:Nat}{R:RH}{s:List Int}{a:Value}{fF:Frag}(b:ORep (zx .i64) R fF a s){r:(List Int)}(c:z2m N s=some r):CallG prog 47 #[a] R [fF] (fun v R' O'=> ∃ u0_0 g0_0,v=u0_0∧O'=[g0_0]∧ORep (zx .i64) R' g0_0 u0_0 r∧capOf u0_0=r.length):=by
 refine p8 (args:=[a]) func47 rfl rfl fun A=>?_;rw [z2m] at c;refine zn (zh vs0 (qx (zb a (zb a (q8 (z2e rfl underlying40 rfl b) (zb a (q8 (z2e rfl underlying40 rfl b) ?_)))))));obtain⟨d,c⟩:=ze c
 refine za4 (v:=a) (lo:=(0:Int).toNat) (hi:=(↑s.length:Int).toNat) (mx:=(↑s.length:Int).toNat) rfl z0p rfl b (.inl ⟨rfl,rfl⟩) (.inr ⟨_,congrArg some (zi rfl (zd0 d))⟩) (.inr ⟨_,congrArg some (zi rfl (zd0 d))⟩) (z7n d) (z4q d) (Nat.le_refl _) (Nat.le_trans (z4q d) (zbg b)) fun f g e=>?_;refine zh f (z8 (qh ?_))
 obtain rfl:=Option.some.inj c;refine vk (D:=[]) (J:=[]) (O':=[fF]) (rs:=[.tmp 2]) (vs:=[f]) (RH.le.refl _) ((pk 0 rfl (List.Perm.refl _))) rfl ⟨rfl,trivial⟩ ?_;exact⟨f,fF,rfl,rfl,g,(e.trans (zj8 d).symm)⟩
theorem z2q{N:Nat}{R:RH}{x:Sa}{k:Value}(j:VRep (zw false false) R k x){r:(List Int)×Int}(c:z0g N x=some r):CallP prog 20 #[k] R (fun v R'=> ∃ u0,v= .tuple #[u0,(vi r.2)]∧VRep (tSl true (zx .i64)) R' u0 r.1):=by
 refine ql (args:=[k]) func20 rfl rfl fun A=>?_;rw [z0g] at c;refine zn (xu (T:=(zw false false)) rfl rfl rfl j fun v1 R3 f h5 h2=>?_);refine zh vs0 (zh (vi 0) (z8 (zy (zn (q8 (jq z1i rfl rfl h5 (j.mono f)) ?_)))));obtain⟨S,c7,c⟩:=zq c
 refine j3 rfl zk1 rfl (z11 (j.mono f) c7) fun v8 bj b h9=>?_;obtain rfl:=h9;refine zh (vi S) (qx (zb (vi S) (q8 (bf rfl rfl) (z8 (zz rfl c (fun c=>?_) (fun c=>?_))))));refine zn (zb (vi S) (zh vs0 (zh (vi S) (z8 (qh ?_)))));obtain rfl:=Option.some.inj c
 refine qd (D:=[]) (J:=[]) (rs:=[.tmp 2,.tmp 3]) (vs:=[vs0,(vi S)]) (f.trans b) rfl rfl ⟨rfl,rfl,trivial⟩ ?_;exact⟨rfl,⟨vs0,rfl,z1p⟩⟩
 refine qb (zn (q8 (jq z1i rfl rfl (h5.mono b) (j.mono (f.trans b))) (q8 (jq z1i rfl rfl (h5.mono b) (j.mono (f.trans b))) (q8 (z08 (fs:=[k]) (cs:=[]) rfl rfl) ?_))));obtain⟨aC,aD,c⟩:=zq c
 refine mh (Oc:=[]) (Or:=[]++A) (cs:=[]) (vs:=[k,(.func (.func 49) #[k] #[])]) rfl znm rfl rfl ((List.Perm.refl _)) (z7k (j.mono (f.trans b)) (zba (fs:=[k]) znb fun R1 hq z0 u0 y k0 hy=>by obtain rfl:=qc.1 k0;exact CallP.mono (z0n ((j.mono (f.trans b)).mono hq) hy) fun v R2 _ hv=>rq.2 hv) aD) fun U bo a9 l aH=>?_
 obtain⟨_,aI,rfl,rfl,aJ⟩:=aH;refine zh U (qx (zh vs0 (z8 ?_)));obtain⟨w,a,c⟩:=zq c;refine qi (γ:=(List Int)×Value×Frag) (rs [5,9,18,34]) (fun g=>[(6,g.2.1)]) (fun g=>[g.2.2]++A) (fun g R=>w=g.1∧ORep (zx .i64) R g.2.2 g.2.1 g.1∧True) ?_ ?_;refine qa (z6a ?_)
 refine qy (γ:=Nat×(List Int)×(List Int)×Value×Frag×Value×Frag) (rs [5,9,18,34]) (fun g=>[(5,g.2.2.2.1),(6,g.2.2.2.2.2.1)]) (fun g=>[g.2.2.2.2.1,g.2.2.2.2.2.2]++A) (fun g R=>z04 N x g.1 g.2.1 g.2.2.1=some w∧ORep (zx .i64) R g.2.2.2.2.1 g.2.2.2.1 g.2.1∧ORep (zx .i64) R g.2.2.2.2.2.2 g.2.2.2.2.2.1 g.2.2.1∧True) (fun g=>g.1) (N,aC,[],U,aI,vs0,emp) ⟨[],(pk 1 rfl (pk 0 rfl (List.Perm.refl _)))⟩ ⟨a,aJ,(z3h (T:=(zx .i64))),trivial⟩ ?_
 clear a;rintro⟨z,V,C,q,W,Z,aK⟩ bp bq m ⟨a,aa,ab,_⟩;rcases z with _|z;exact qm a;replace a:z04 N x (z+1) V C=some w:=a;rw [z04] at a;refine qa (zn (q8 (jq z1i rfl rfl (h5.mono ((b.trans l).trans m)) (j.mono (((f.trans b).trans l).trans m))) (zb q ?_)))
 obtain⟨I,aL,a⟩:=zq a
 refine zmo (T:=(zx .i64)) (X:=I) (cs:=[]) (vs:=[k,q]) (ψ:=fun u=>capOf u=I.length) (fun _ _ _ _ _ h=>h) rfl zr1 rfl rfl (fun aM G ac=>(z6d ((j.mono (((f.trans b).trans l).trans m)).mono G) (z7r ((zaj 0 rfl aa G ac):VRep (o5 (zx .i64)) aM q V)) aL).mono (fun _ _ _ _ ⟨_,g,e,eO,h,hc⟩=>by subst e;exact⟨g,eO,h,hc⟩)) fun ad K aN L=>?_
 obtain⟨d,aO,a⟩:=zq a;refine z6s (cs:=[]) (vs:=[ad]) (φ:=fun v=>v= .tuple #[(vi d.1),(.bool d.2)]) rfl zrj rfl rfl (fun aP ae af=>zcp (Sub.v (B:=(tSl false (zx .i64))) (uw Sub.refl (fun _=>rfl)) (z0m (t:=true) ((zaj 0 rfl aN ae af):VRep (o5 (zx .i64)) aP ad I) L)) aO) fun bs aQ=>?_
 obtain rfl:=aQ;refine zb (.tuple #[(vi d.1),(.bool d.2)]) (q8 (qz rfl rfl) (q8 (qz rfl rfl) (si rfl za3 fun s=>?_)));refine gz (i:=0) (vs:=[(vi d.1)]) sz3 rfl rfl rfl rfl rfl rfl (kz rfl mr) ?_
 refine zh (.bool d.2) (z8 (zy (zn (zb (.bool d.2) (q8 (nz rfl) (z8 (zz rfl a (fun a=>?_) (fun a=>?_))))))));refine jb ?_;exact⟨dkt,m,jc,(C,Z,aK),⟨rfl,trivial⟩,⟨[box s [(vi d.1)] 3,K,W],(List.Perm.refl _)⟩,(Option.some.inj a).symm,ab,trivial⟩
 refine qb (zn (zb Z (q8 (ed (i:=0) ag3 rfl rfl rfl) (dm (T:=(zx .i64)) (X:=([d.1]:List Int)) (ps:=[(0,(vi d.1))]) (css:=[[(vi d.1)]]) rfl underlying40 zo3 rfl rfl (ji ⟨rfl,trivial⟩) rfl rfl (by decide) fun aR bt M aS=>?_))));refine ku (i:=0) rfl aS fun aT n aU=>?_
 have aV:VRep (tSl true (zx .i64)) aT aR ([d.1]:List Int):=(z0m aU M);obtain⟨ag,a⟩:=ze a;refine z10 (i:=3) (X:=C) (Y:=([d.1]:List Int)) rfl underlying40 zo3 rfl rfl rfl (ab.mono n) (jr (Sub.v (B:=(tSl false (zx .i64))) (uw Sub.refl (fun _=>rfl)) aV)) ag.1 ag.2 fun ah ai aW=>?_
 refine zh ah (z8 (zu (zb q (q8 (z08 (fs:=[]) (cs:=[v1,(.pointer (some ⟨s,0,none⟩))]) rfl rfl) (ziw (i:=0) rfl fun aX o aY=>?_)))));have aZ:PRep (zx .i64) aX (.pointer (some ⟨s,0,none⟩)) d.1:=z9r aY rfl;obtain⟨a0,a1,a⟩:=zq a
 refine mh (Oc:=[W]) (Or:=[K,ai]++A) (cs:=[]) (vs:=[q,(.func (.func 53) #[] #[v1,(.pointer (some ⟨s,0,none⟩))])]) rfl zs7 rfl rfl ((pk 1 rfl (pk 0 rfl (pk 0 rfl (List.Perm.refl _))))) (z6k (aa.mono (n.trans o)) (zbe (cs:=[v1,(.pointer (some ⟨s,0,none⟩))]) zsd fun R1 hq z0 u0 y k0 hy=>by obtain rfl:=qc.1 k0;exact CallP.mono (za9 ((h2.mono ((((b.trans l).trans m).trans n).trans o)).mono hq) (aZ.mono hq) hy) fun v R2 _ hv=>rq.2 hv) a1) fun aj bu ba H a2=>?_
 obtain⟨_,a3,rfl,rfl,a4⟩:=a2;refine zh aj (z8 ?_);exact⟨dkt,((n.trans o).trans H),jc,(z,a0,(C++([d.1]:List Int)),aj,a3,ah,ai),Nat.lt_succ_self _,⟨rfl,rfl,trivial⟩,⟨[K],(pk 1 rfl (pk 0 rfl (pk 0 rfl (List.Perm.refl _))))⟩,a,a4,(aW.mono (o.trans H)),trivial⟩;rintro⟨w,E,a5⟩ bv bw ak ⟨rfl,a6,_⟩
 refine zn (zb E ?_);obtain⟨bx,al,c⟩:=zq c;refine mh (Oc:=[a5]) (Or:=[]++A) (cs:=[]) (vs:=[E]) rfl zq2 rfl rfl ((pk 0 rfl (List.Perm.refl _))) (z6z a6 al) fun bb bc a7 O am=>?_;obtain⟨an,rfl,rfl,ao⟩:=am;refine qx (zb E ?_);obtain⟨ap,aq,c⟩:=zq c
 refine mh (Oc:=[an]) (Or:=[]++A) (cs:=[]) (vs:=[E]) rfl zpd rfl rfl ((pk 0 rfl (List.Perm.refl _))) (zaa ao aq) fun p be a8 P ar=>?_;obtain⟨_,bg,rfl,rfl,au,F⟩:=ar;refine zh p (zh (vi 0) (z8 (z06 (i:=0) rfl au fun av Q aw=>?_)))
 have ax:VRep (tSl true (zx .i64)) av p ap:=(z0m aw F);refine qh ?_;obtain rfl:=Option.some.inj c;refine qd (D:=[]) (J:=[]) (rs:=[.tmp 2,.tmp 3]) (vs:=[p,(vi 0)]) ((((((f.trans b).trans l).trans ak).trans O).trans P).trans Q) rfl rfl ⟨rfl,rfl,trivial⟩ ?_;exact⟨rfl,⟨p,rfl,ax⟩⟩
theorem zn8:Enters prog 20:=enters_of func20 rfl (by kernel_rfl)
theorem z9k{N:Nat}{R:RH}{s:List Int}{b:Value}{fF:Frag}(y:ORep (zx .i64) R fF b s){r:(List Int)}(o:slices_Compact_int N s=some r):CallG prog 56 #[b] R [fF] (fun v R' O'=> ∃ u0,v=u0∧O'=[]∧VRep (tSl false (zx .i64)) R' u0 r):=by
 refine p8 (args:=[b]) func56 rfl rfl fun A=>?_;rw [slices_Compact_int] at o;refine zn (zh vs0 (z8 (zy (zn (zb b (q8 (z2e rfl underlying40 rfl y) (q8 (ja rfl rfl) (z8 (zz rfl o (fun o=>?_) (fun o=>?_))))))))))
 refine zn (zb b (zh b (z8 (z06 (i:=0) rfl y fun R2 aB h4=>?_))));have h5:VRep (tSl false (zx .i64)) R2 b s:=(z7r h4);refine qh ?_;obtain rfl:=Option.some.inj o;refine vk (D:=[]) (J:=[]) (O':=[]) (rs:=[.tmp 2]) (vs:=[b]) aB ((List.Perm.refl _)) rfl ⟨rfl,trivial⟩ ?_;exact⟨b,rfl,rfl,h5⟩;refine qb ?_
 obtain⟨q7,c,o⟩:=zq o;refine qi (γ:=Unit) (rs [2,6,10,60]) (fun g=>[]) (fun g=>[fF]++A) (fun g R=>q7=Ex.go g∧True) ?_ ?_
 refine zn (zh (vi 1) (z8 (qa (qy (γ:=Nat×Int) (rs [2,6,10,60]) (fun g=>[(3,(vi g.2))]) (fun g=>[fF]++A) (fun g R=>dx N s g.1 g.2=some q7∧True) (fun g=>g.1) (N,1) prm ⟨c,trivial⟩ ?_))));clear c;rintro⟨Q,a⟩ aZ bg m ⟨c,_⟩;rcases Q with _|Q;exact qm c
 replace c:dx N s (Q+1) a=some q7:=c;rw [dx] at c;refine zy (zn (zb (vi a) (zb b (q8 (z2e rfl underlying40 rfl (y.mono m)) (q8 (ja rfl rfl) (z8 (zz rfl c (fun c=>?_) (fun c=>?_))))))))
 refine qb (zy (qa (zy (z6t 10 mixed (by kernel_rfl) (by kernel_rfl) ?_))));refine z02 (v:=b) (za rfl) ?_;refine z02 (v:=(vi a)) (za rfl) ?_;obtain⟨X,c⟩:=ze c;refine zef (z7v (i:=a.toNat) z0p rfl (y.mono m) (zi rfl X.1) (q9 X)) fun bh aD=>?_
 refine z02 (z1z (z9w (i:=a.toNat) (j:=0) ty3 (y.mono m) rfl rfl aD (q9 X))) ?_;refine z02 (v:=b) (za rfl) ?_;refine z02 (v:=(vi a)) (za rfl) ?_;obtain⟨aE,c⟩:=ze c;refine z02 (uh rfl rfl aE) ?_;obtain⟨Y,c⟩:=ze c
 refine zef (z7v (i:=(a-1).toNat) z0p rfl (y.mono m) (zi rfl Y.1) (q9 Y)) fun bj aF=>?_;refine z02 (z1z (z9w (i:=(a-1).toNat) (j:=0) ty3 (y.mono m) rfl rfl aF (q9 Y))) ?_;refine z02 (ry rfl rfl) ?_;intro bk C;refine z8 (zz rfl c (fun c=>?_) (fun c=>?_))
 refine zn (zb b (zb (vi a) ?_));obtain⟨Z,c⟩:=ze c;refine z3y rfl (zk (z9i (lo:=a.toNat) (hi:=s.length) z0p rfl (y.mono (m.trans C)) (.inr ⟨_,congrArg some (zi rfl Z.1)⟩) (.inl ⟨rfl,rfl,rfl⟩) (z7n Z) (z4q Z))) fun bl bm V aG=>?_;obtain rfl:=Eq.symm aG;refine zh (z7y 1 b a.toNat s.length) (z8 ?_)
 obtain⟨f,k,c⟩:=zq c;refine qi (γ:=(Int×List Int)×Frag) (rs [3,4,5,6,29,54]) (fun g=>[(3,(vi g.1.1))]) (fun g=>[g.2]++A) (fun g R=>f=g.1∧ORep (zx .i64) R g.2 b g.1.2∧True) ?_ ?_
 refine zn (zh (vi 1) (z8 (qa (qy (γ:=Nat×Int×Int×(List Int)×Frag) (rs [3,4,5,6,29,54]) (fun g=>[(3,(vi g.2.1)),(5,(vi g.2.2.1))]) (fun g=>[g.2.2.2.2]++A) (fun g R=>og N s a g.1 g.2.1 g.2.2.1 g.2.2.2.1=some f∧ORep (zx .i64) R g.2.2.2.2 b g.2.2.2.1∧True) (fun g=>g.1) (N,a,1,s,fF) prm ⟨k,(y.mono ((m.trans C).trans V)),trivial⟩ ?_))))
 clear k;rintro⟨S,z,d,t,ac⟩ a0 bn ad ⟨k,w,_⟩;rcases S with _|S;exact qm k;replace k:og N s a (S+1) z d t=some f:=k;rw [og] at k
 refine zy (zn (zb (vi d) (zb (z7y 1 b a.toNat s.length) (z3y rfl (zk (zf4 rfl underlying40 rfl w)) fun bo bp e aH=>?_))));obtain rfl:=Eq.symm aH;refine q8 (ja rfl rfl) (z8 (zz rfl k (fun k=>?_) (fun k=>?_)));refine qb ?_;obtain⟨U,p,k⟩:=zq k
 refine qi (γ:=(Int×List Int)×Frag) (rs [3,4,35,54]) (fun g=>[(3,(vi g.1.1))]) (fun g=>[g.2]++A) (fun g R=>U=g.1∧ORep (zx .i64) R g.2 b g.1.2∧True) ?_ ?_;refine qa (zy ?_);obtain⟨I,aI,K,p⟩:=zm8 p
 refine tu 10 [] [phX (z7y 1 b a.toNat s.length),phX (vi d),(fun u _=>xc (zx .i64) b t u (a+d).toNat),phX (vi (ix t (a+d))),phX (z7y 1 b a.toNat s.length),phX (vi d),phX (vi (d-1)),(fun u _=>xc (zx .i64) b t u (a+(d-1)).toNat),phX (vi (ix t (a+(d-1)))),phX (.bool (decide ((ix t (a+d))≠(ix t (a+(d-1))))))] mixed (by kernel_rfl) (bi ⟨zf,zf,(fun _ _ _ _ h=>h),zf,zf,zf,zf,(fun _ _ _ _ h=>h),zf,zf,trivial⟩) ⟨?_,?_,?_,?_,?_,?_,?_,?_,?_,?_,trivial⟩ fun bq x=>?_
 intro l br q H hd;exact zg rfl rfl rfl (zk (za (H 4 rfl)));intro l bs q H hd;exact zg rfl rfl rfl (zk (za (H 5 rfl)));rintro l bt q H ⟨L,d1,_⟩
 exact zg rfl rfl rfl (z4w (T:=(zx .i64)) (lo:=a.toNat) (hi:=s.length) (n:=(a+d).toNat) z0p (L rfl) ((w.mono e).mono q) (zi (d1 rfl) I.2.1) (zes I) (zfb I) (zca I));rintro l bu q H ⟨L,_⟩
 exact zg rfl rfl rfl (j5 (jk (i:=(a+d).toNat) (j:=0) ty3 ((w.mono e).mono q) rfl rfl (L rfl) (q9 (zf3 I))) (fun _ _ h=>qc.1 h));intro l bv q H hd;exact zg rfl rfl rfl (zk (za (H 4 rfl)));intro l bw q H hd;exact zg rfl rfl rfl (zk (za (H 5 rfl)));rintro l bx q H ⟨L,_⟩
 exact zg rfl rfl rfl (zk (uh (L rfl) rfl aI));rintro l bz q H ⟨L,d1,_⟩;exact zg rfl rfl rfl (z4w (T:=(zx .i64)) (lo:=a.toNat) (hi:=s.length) (n:=(a+(d-1)).toNat) z0p (L rfl) ((w.mono e).mono q) (zi (d1 rfl) K.2.1) (zes K) (zfb K) (zca K));rintro l bA q H ⟨L,_⟩
 exact zg rfl rfl rfl (j5 (jk (i:=(a+(d-1)).toNat) (j:=0) ty3 ((w.mono e).mono q) rfl rfl (L rfl) (q9 (zf3 K))) (fun _ _ h=>qc.1 h));rintro l bB q H ⟨L,d1,_⟩;exact zg rfl rfl rfl (zk (bf (L rfl) (d1 rfl)));intro bC aK bD aL bE bF bG aM bH aN bI aO bJ aP bK bL bM aQ bN aR;obtain rfl:=Eq.symm aK
 obtain rfl:=Eq.symm aL;obtain rfl:=Eq.symm aM;obtain rfl:=Eq.symm aN;obtain rfl:=Eq.symm aO;obtain rfl:=Eq.symm aP;obtain rfl:=Eq.symm aQ;obtain rfl:=Eq.symm aR;refine z8 (zz rfl p (fun p=>?_) (fun p=>?_));refine zn (zb b (zb (vi z) (zb (z7y 1 b a.toNat s.length) (zb (vi d) ?_))));obtain⟨M,p⟩:=ze p
 refine z3y rfl (z4w (T:=(zx .i64)) (lo:=a.toNat) (hi:=s.length) (n:=(a+d).toNat) z0p rfl (w.mono (e.trans x)) (zi rfl M.2.1) (zes M) (zfb M) (zca M)) fun bO bP E aS=>?_;refine z7x (i:=(a+d).toNat) (j:=0) rfl ty3 (w.mono ((e.trans x).trans E)) rfl rfl aS (q9 (zf3 M)) fun a1 af=>?_
 obtain rfl:=qc.1 af;obtain⟨O,p⟩:=ze p;refine z1v (i:=z.toNat) rfl z0p rfl (w.mono ((e.trans x).trans E)) (zi rfl O.1) (q9 O) fun a2 ag=>?_;refine z4t (i:=z.toNat) (j:=0) ty3 (w.mono ((e.trans x).trans E)) rfl rfl ag (q9 O) rfl (qc.2 rfl) fun ah ai=>?_
 refine z8 (zu (zb (vi z) ?_));obtain⟨aj,p⟩:=ze p;refine q8 (qo rfl rfl aj) (zh (vi (z+1)) (z8 ?_));exact⟨dkt,(x.trans E),jc,((z+1,(up t z (ix t (a+d)))),ah),⟨rfl,trivial⟩,prm,(Option.some.inj p).symm,ai,trivial⟩;refine qb ?_
 exact⟨dkt,x,jc,((z,t),ac),⟨rfl,trivial⟩,prm,(Option.some.inj p).symm,(w.mono (e.trans x)),trivial⟩;rintro⟨U,aT⟩ a3 bQ ak ⟨rfl,aU,_⟩;refine zu (zb (vi d) ?_);obtain⟨al,k⟩:=ze k;refine q8 (qo rfl rfl al) (zh (vi (d+1)) (z8 ?_))
 exact⟨dkt,(e.trans ak),jc,(S,U.1,d+1,U.2,aT),Nat.lt_succ_self _,⟨rfl,rfl,trivial⟩,prm,k,aU,trivial⟩;refine jb ?_;exact⟨dkt,(ad.trans e),jc,((z,t),ac),⟨rfl,trivial⟩,prm,(Option.some.inj k).symm,(w.mono e),trivial⟩;rintro⟨f,aV⟩ a4 bR am ⟨rfl,an,_⟩;refine zn (zb b (zb (vi f.1) ?_))
 obtain⟨B,c⟩:=ze c;refine z3y rfl (zk (z9i (lo:=f.1.toNat) (hi:=f.2.length) z0p rfl an (.inr ⟨_,congrArg some (zi rfl B.1)⟩) (.inl ⟨rfl,rfl,rfl⟩) (z7n B) (z4q B))) fun a5 a6 P ao=>?_;obtain rfl:=Eq.symm ao
 refine zb2 (Oc:=[aV]) (Or:=[]++A) (List.Perm.refl _) (zat (lo:=f.1.toNat) (hi:=f.2.length) rfl underlying40 zo3 (an.mono P) (z7n B) (z4q B) rfl) ?_;rintro a7 a8 aW aX ⟨rfl,a9,rfl,rfl,W⟩;refine qx (zb b (zb (vi f.1) ?_));obtain⟨F,c⟩:=ze c
 refine za4 (v:=b) (lo:=(0:Int).toNat) (hi:=f.1.toNat) (mx:=(capOf b)) rfl z0p rfl W (.inl ⟨rfl,rfl⟩) (.inr ⟨_,congrArg some (zi rfl (zd0 F))⟩) (.inl ⟨rfl,rfl⟩) (z7n F) (z4q F) (Nat.le_trans (z4q F) (zbg W)) (Nat.le_refl _) fun G ap aA=>?_;refine zh G (z8 (z06 (i:=0) rfl ap fun aq aa ar=>?_))
 have au:VRep (tSl false (zx .i64)) aq G (cut (z2v f.2 f.1.toNat (List.replicate (f.2.length-f.1.toNat) (0:Int))) 0 f.1):=(z7r ar);refine qh ?_;replace o:=z0f c o;obtain rfl:=Option.some.inj o
 refine vk (D:=[]) (J:=[]) (O':=[]) (rs:=[.tmp 2]) (vs:=[G]) (((((m.trans C).trans V).trans am).trans P).trans aa) ((List.Perm.refl _)) rfl ⟨rfl,trivial⟩ ?_;exact⟨G,rfl,rfl,au⟩;refine qb (zu (zb (vi a) ?_));obtain⟨av,c⟩:=ze c;refine q8 (qo rfl rfl av) (zh (vi (a+1)) (z8 ?_))
 exact⟨dkt,C,jc,(Q,a+1),Nat.lt_succ_self _,⟨rfl,trivial⟩,prm,c,trivial⟩;refine jb ?_;exact⟨dkt,m,jc,(),trivial,prm,(Option.some.inj c).symm,trivial⟩;rintro o6 ba R8 aw ⟨rfl,_⟩;replace o:=z13 o;refine zn (zb b (zh b (z8 (z06 (i:=0) rfl (y.mono aw) fun ax ab ay=>?_))))
 have az:VRep (tSl false (zx .i64)) ax b s:=(z7r ay);refine qh ?_;obtain rfl:=Option.some.inj o;refine vk (D:=[]) (J:=[]) (O':=[]) (rs:=[.tmp 2]) (vs:=[b]) (aw.trans ab) ((List.Perm.refl _)) rfl ⟨rfl,trivial⟩ ?_;exact⟨b,rfl,rfl,az⟩
theorem zrt:Enters prog 56:=enters_of func56 rfl (by kernel_rfl)
theorem z2x{N:Nat}{R:RH}{x:Sa}{s:Value}(l:VRep (zw false false) R s x){r:(List Int)×Int}(a:z03 N x=some r):CallP prog 21 #[s] R (fun v R'=> ∃ u0,v= .tuple #[u0,(vi r.2)]∧VRep (tSl true (zx .i64)) R' u0 r.1):=by
 refine ql (args:=[s]) func21 rfl rfl fun A=>?_;rw [z03] at a;refine zn (xu (T:=(zw false false)) rfl rfl rfl l fun v1 R3 h h5 h2=>?_);refine zh vs0 (zh (vi 0) (z8 (zy (zn (q8 (jq z1i rfl rfl h5 (l.mono h)) ?_)))));obtain⟨E,c7,a⟩:=zq a
 refine j3 rfl zk1 rfl (z11 (l.mono h) c7) fun v8 aE d h9=>?_;obtain rfl:=h9;refine zh (vi E) (qx (zb (vi E) (q8 (bf rfl rfl) (z8 (zz rfl a (fun a=>?_) (fun a=>?_))))));refine zn (zb (vi E) (zh vs0 (zh (vi E) (z8 (qh ?_)))));obtain rfl:=Option.some.inj a
 refine qd (D:=[]) (J:=[]) (rs:=[.tmp 2,.tmp 3]) (vs:=[vs0,(vi E)]) (h.trans d) rfl rfl ⟨rfl,rfl,trivial⟩ ?_;exact⟨rfl,⟨vs0,rfl,z1p⟩⟩;refine qb (zn (zh vs0 (z8 ?_)));obtain⟨n,b,a⟩:=zq a
 refine qi (γ:=(List Int)×Value×Frag) (rs [5,8,13,32]) (fun g=>[(5,g.2.1)]) (fun g=>[g.2.2]++A) (fun g R=>n=g.1∧ORep (zx .i64) R g.2.2 g.2.1 g.1∧True) ?_ ?_;refine zn (pq rfl z0y jh rfl (h2.mono d) fun aG S=>?_);refine j4 rfl z8d rfl S fun aH U=>?_
 refine q8 (qw rfl underlying38 rfl (jr U)) (zb (vi 0) (z8 (qa (z6a ?_))))
 refine qy (γ:=Nat×(List Int)×Int×Value×Frag) (rs [5,8,16,32]) (fun g=>[(5,g.2.2.2.1),(16,(vi g.2.2.1))]) (fun g=>[g.2.2.2.2]++A) (fun g R=>cu N x g.1 g.2.1 g.2.2.1=some n∧ORep (zx .i64) R g.2.2.2.2 g.2.2.2.1 g.2.1∧True) (fun g=>g.1) (N,[],0,vs0,emp) prm ⟨b,(z3h (T:=(zx .i64))),trivial⟩ ?_;clear b
 rintro⟨o,m,j,t,F⟩ aI aJ e ⟨b,u,_⟩;rcases o with _|o;exact qm b;replace b:cu N x (o+1) m j=some n:=b;rw [cu] at b;refine zn (q8 (ja rfl rfl) (z8 (zy (zz rfl b (fun b=>?_) (fun b=>?_)))));refine qb ?_;obtain⟨w,c,b⟩:=zq b
 refine qi (γ:=(List Int)×Value×Frag) (rs [5,8,18,31]) (fun g=>[(5,g.2.1)]) (fun g=>[g.2.2]++A) (fun g R=>w=g.1∧ORep (zx .i64) R g.2.2 g.2.1 g.1∧True) ?_ ?_;refine qa (zn (zb (vi j) (zh (vi j) (qx (q8 (jq z1i rfl rfl (h5.mono (d.trans e)) (l.mono ((h.trans d).trans e))) (zb (vi j) ?_))))))
 obtain⟨k,V,c⟩:=zq c;refine j3 rfl zkc rfl (oz (l.mono ((h.trans d).trans e)) V) fun y aK f G=>?_;refine zh y (qx (zb y (q8 (qw rfl underlying40 rfl (jr G)) (q8 (ry rfl rfl) (z8 (zz rfl c (fun c=>?_) (fun c=>?_)))))));refine zu (zb t (zb y ?_))
 obtain⟨H,c⟩:=ze c;refine kv (i:=(0:Int).toNat) rfl z0p rfl (jr G) (zi rfl H.1) (q9 H) fun aL W=>?_;refine j4 rfl ty3 rfl W fun aM Z=>?_;obtain rfl:=qc.1 Z
 refine dm (T:=(zx .i64)) (X:=([(ix k 0)]:List Int)) (ps:=[(0,(vi (ix k 0)))]) (css:=[[(vi (ix k 0))]]) rfl underlying40 zo3 rfl rfl (ji ⟨rfl,trivial⟩) rfl rfl (by decide) fun aa aN z ab=>?_;refine ku (i:=0) rfl ab fun ac q ad=>?_;have ae:VRep (tSl true (zx .i64)) ac aa ([(ix k 0)]:List Int):=(z0m ad z)
 obtain⟨I,c⟩:=ze c;refine z10 (i:=0) (X:=m) (Y:=([(ix k 0)]:List Int)) rfl underlying40 zo3 rfl rfl rfl (u.mono (f.trans q)) (jr (Sub.v (B:=(tSl false (zx .i64))) (uw Sub.refl (fun _=>rfl)) ae)) I.1 I.2 fun K af ag=>?_;refine zh K (z8 ?_)
 exact⟨dkt,(f.trans q),jc,((m++([(ix k 0)]:List Int)),K,af),⟨rfl,trivial⟩,prm,(Option.some.inj c).symm,ag,trivial⟩;refine qb ?_;exact⟨dkt,f,jc,(m,t,F),⟨rfl,trivial⟩,prm,(Option.some.inj c).symm,(u.mono f),trivial⟩;rintro⟨w,ah,ai⟩ aO aP L ⟨rfl,aj,_⟩;refine zu ?_;obtain⟨ak,b⟩:=ze b
 refine q8 (qo rfl rfl ak) (zb (vi (j+1)) (z8 ?_));exact⟨dkt,L,jc,(o,w,j+1,ah,ai),Nat.lt_succ_self _,⟨rfl,rfl,trivial⟩,prm,b,aj,trivial⟩;refine jb ?_;exact⟨dkt,e,jc,(m,t,F),⟨rfl,trivial⟩,prm,(Option.some.inj b).symm,u,trivial⟩;rintro⟨n,p,al⟩ aQ aR M ⟨rfl,am,_⟩;refine zn (zb p ?_)
 obtain⟨aS,an,a⟩:=zq a;refine mh (Oc:=[al]) (Or:=[]++A) (cs:=[]) (vs:=[p]) rfl zq2 rfl rfl ((pk 0 rfl (List.Perm.refl _))) (z6z am an) fun aT aU aA O ao=>?_;obtain⟨ap,rfl,rfl,aq⟩:=ao;refine qx (zb p ?_);obtain⟨aV,ar,a⟩:=zq a
 refine mh (Oc:=[ap]) (Or:=[]++A) (cs:=[]) (vs:=[p]) rfl zrt rfl rfl ((pk 0 rfl (List.Perm.refl _))) (z9k aq ar) fun aW aX aB P au=>?_;obtain⟨_,rfl,rfl,av⟩:=au;obtain⟨aY,aw,a⟩:=zq a;refine j3 rfl zpd rfl (z6p av aw) fun C aZ Q ax=>?_;refine zh C (zh (vi 0) (z8 (qh ?_)))
 obtain rfl:=Option.some.inj a;refine qd (D:=[]) (J:=[]) (rs:=[.tmp 2,.tmp 3]) (vs:=[C,(vi 0)]) (((((h.trans d).trans M).trans O).trans P).trans Q) rfl rfl ⟨rfl,rfl,trivial⟩ ?_;exact⟨rfl,⟨C,rfl,ax⟩⟩
theorem zp5:Enters prog 21:=enters_of func21 rfl (by kernel_rfl)
theorem z0u{N:Nat}{R:RH}{x:Sa}{f:Value}(l:VRep (zw false false) R f x){r:Int}(e:o8 N x=some r):CallP prog 57 #[f] R (fun v R'=>v=(vi r)):=by
 refine ql (args:=[f]) func57 rfl rfl fun A=>?_;rw [o8] at e;refine zn (xu (T:=(zw false false)) rfl rfl rfl l fun L M m O y=>?_);refine zh (vi 0) (qx (zh (vi 0) (z8 ?_)));obtain⟨h,a,e⟩:=zq e
 refine qi (γ:=Int) (rs [3,20]) (fun g=>[(3,(vi g))]) (fun g=>[]++A) (fun g R=>h=g∧True) ?_ ?_
 refine zn (zh (vi 0) (z8 (qa (qy (γ:=Nat×Int×Int) (rs [3,20]) (fun g=>[(3,(vi g.2.1)),(4,(vi g.2.2))]) (fun g=>[]++A) (fun g R=>xm N x g.1 g.2.1 g.2.2=some h∧True) (fun g=>g.1) (N,0,0) prm ⟨a,trivial⟩ ?_))));clear a;rintro⟨k,c,b⟩ z B d ⟨a,_⟩;rcases k with _|k;exact qm a
 replace a:xm N x (k+1) c b=some h:=a;rw [xm] at a;refine zy (zn (zb (vi b) (pq rfl z0y jh rfl (y.mono d) fun C n=>?_)));refine j4 rfl z8d rfl n fun E o=>?_
 refine q8 (qw rfl underlying38 rfl (jr o)) (q8 (ja rfl rfl) (z8 (zz rfl a (fun a=>?_) (fun a=>?_))));refine qb (zy (qa (zu (zb (vi c) (pq rfl z0y jh rfl (y.mono d) fun F p=>?_)))));refine j4 rfl z8d rfl p fun G q=>?_;refine zb (vi b) ?_
 obtain⟨j,a⟩:=ze a;refine kv (i:=b.toNat) rfl z7b rfl (jr q) (zi rfl j.1) (q9 j) fun H s=>?_;refine j4 rfl z6n rfl s fun I t=>?_
 refine q8 (qw rfl underlying40 rfl (jr t)) (q8 (zdt rfl underlying3 rfl rfl) (zh (vi (max c (↑(ix x.fB b).length:Int))) (z8 (zu (zb (vi b) ?_)))));obtain⟨u,a⟩:=ze a;refine q8 (qo rfl rfl u) (zh (vi (b+1)) (z8 ?_))
 exact⟨dkt,(RH.le.refl _),jc,(k,max c (↑(ix x.fB b).length:Int),b+1),Nat.lt_succ_self _,⟨rfl,rfl,trivial⟩,prm,a,trivial⟩;refine jb ?_;exact⟨dkt,d,jc,c,⟨rfl,trivial⟩,prm,(Option.some.inj a).symm,trivial⟩;rintro h K P w ⟨rfl,_⟩;refine zn (zb (vi h) (zh (vi h) (z8 (qh ?_))));obtain rfl:=Option.some.inj e
 refine qd (D:=[]) (J:=[]) (rs:=[.tmp 2]) (vs:=[(vi h)]) (m.trans w) rfl rfl ⟨rfl,trivial⟩ ?_;exact⟨rfl,rfl⟩
theorem znw:Enters prog 57:=enters_of func57 rfl (by kernel_rfl)
theorem zpt:Enters prog 58:=enters_of func58 rfl (by kernel_rfl)
theorem z5u{N:Nat}(F:Nat): ∀ {R:RH} {d:Int} {columns:Int} {n:Int} {r:(List (List Int))} (f:dz N F d columns n=some r),CallP prog 58 #[(vi d),(vi columns),(vi n)] R (fun v R'=>VRep (tSl false (tSl false (zx .i64))) R' v r):=by
  induction F with
  |zero=>intros;rename_i f;exact qm f
  |succ F ih=>
    intro R d columns n r f
    refine ql (args:=[(vi d),(vi columns),(vi n)]) func58 rfl rfl fun A=>?_
    rw [dz] at f
    refine zy ?_
    refine zu ?_
    refine zh vs0 ?_
    refine z8 ?_
    refine zy ?_
    refine zy ?_
    refine zu ?_
    refine zb (vi n) ?_
    refine q8 (ry rfl rfl) ?_
    refine z8 ?_
    refine zz rfl f (fun f=>?_) (fun f=>?_)
    · refine zy ?_
      refine zu ?_
      refine dm (T:=(zx .i64)) (X:=([]:List Int)) (ps:=[]) (css:=[]) rfl underlying40 zo3 rfl rfl (ji trivial) rfl rfl (by decide) fun v2 f3 H h5=>?_
      refine ku (i:=0) rfl h5 fun R7 ai h9=>?_
      have I:VRep (tSl true (zx .i64)) R7 v2 ([]:List Int):=(z0m h9 H)
      refine dm (T:=(tSl true (zx .i64))) (X:=([([]:List Int)]:List (List Int))) (ps:=[(0,v2)]) (css:=[[v2]]) rfl underlying38 zcz rfl (by simp only [List.map_cons,List.map_nil,nk I];rfl) (ji ⟨(jo rfl I),trivial⟩) rfl rfl (by decide) fun w aS x aj=>?_
      refine zh w ?_
      refine z8 ?_
      refine z06 (i:=0) rfl aj fun ak K al=>?_
      have am:VRep (tSl true (tSl true (zx .i64))) ak w ([([]:List Int)]:List (List Int)):=(z0m al x)
      refine qh ?_
      obtain rfl:=Option.some.inj f
      refine qd (D:=[]) (J:=[]) (rs:=[.tmp 6]) (vs:=[w]) (ai.trans K) rfl rfl ⟨rfl,trivial⟩ ?_
      exact⟨rfl,(Sub.v (B:=(tSl false (tSl false (zx .i64)))) (uw (uw Sub.refl (fun _=>rfl)) (fun _=>rfl)) am)⟩
    · refine qb ?_
      refine zy ?_
      refine zu ?_
      refine zh vs0 ?_
      refine z8 ?_
      obtain⟨j,c,f⟩:=zq f
      refine qi (γ:=(List (List Int))×Value×Frag) (rs [7,11,15,43]) (fun g=>[(7,g.2.1)]) (fun g=>[g.2.2]++A) (fun g R=>j=g.1∧ORep (tSl false (zx .i64)) R g.2.2 g.2.1 g.1∧True) ?_ ?_
      · refine zy ?_
        refine zu ?_
        refine zb (vi d) ?_
        refine zh (vi d) ?_
        refine z8 ?_
        refine qa ?_
        refine z6a ?_
        refine qy (γ:=Nat×(List (List Int))×Int×Value×Frag) (rs [7,11,16,43]) (fun g=>[(7,g.2.2.2.1),(8,(vi g.2.2.1))]) (fun g=>[g.2.2.2.2]++A) (fun g R=>lv N (dz N F) columns n g.1 g.2.1 g.2.2.1=some j∧ORep (tSl false (zx .i64)) R g.2.2.2.2 g.2.2.2.1 g.2.1∧True) (fun g=>g.1) (N,[],d,vs0,emp) prm ⟨c,(z3h (T:=(tSl false (zx .i64)))),trivial⟩ ?_
        clear c
        rintro⟨m,y,b,L,M⟩ aN aT O ⟨c,P,_⟩
        rcases m with _|m
        · exact qm c
        replace c:lv N (dz N F) columns n (m+1) y b=some j:=c;rw [lv] at c
        refine zy ?_
        refine zy ?_
        refine zu ?_
        refine zb (vi b) ?_
        refine zb (vi columns) ?_
        refine q8 (ja rfl rfl) ?_
        refine z8 ?_
        refine zz rfl c (fun c=>?_) (fun c=>?_)
        · refine qb ?_
          obtain⟨k,a,c⟩:=zq c
          refine qi (γ:=(List (List Int))×Value×Frag) (rs [7,8,9,11,21,43]) (fun g=>[(7,g.2.1)]) (fun g=>[g.2.2]++A) (fun g R=>k=g.1∧ORep (tSl false (zx .i64)) R g.2.2 g.2.1 g.1∧True) ?_ ?_
          · refine qa ?_
            refine zy ?_
            refine zu ?_
            refine zb (vi b) ?_
            obtain⟨an,a⟩:=ze a
            refine q8 (qo rfl rfl an) ?_
            refine zb (vi columns) ?_
            refine zb (vi n) ?_
            obtain⟨ao,a⟩:=ze a
            refine q8 (uh rfl rfl ao) ?_
            obtain⟨h,ap,a⟩:=zq a
            refine j3 rfl zpt rfl (ih  ap) fun z aU s Q=>?_
            refine zh z ?_
            refine z8 ?_
            refine zy ?_
            refine zu ?_
            refine zh (vi 0) ?_
            refine z8 ?_
            refine qa ?_
            refine qy (γ:=Nat×Int×(List (List Int))×Value×Frag) (rs [7,8,10,11,27,43]) (fun g=>[(7,g.2.2.2.1),(10,(vi g.2.1))]) (fun g=>[g.2.2.2.2]++A) (fun g R=>lq N b h g.1 g.2.1 g.2.2.1=some k∧ORep (tSl false (zx .i64)) R g.2.2.2.2 g.2.2.2.1 g.2.2.1∧True) (fun g=>g.1) (N,0,y,L,M) prm ⟨a,(P.mono s),trivial⟩ ?_
            clear a
            rintro⟨o,e,p,S,aq⟩ aV aW l ⟨a,U,_⟩
            rcases o with _|o
            · exact qm a
            replace a:lq N b h (o+1) e p=some k:=a;rw [lq] at a
            refine zy ?_
            refine zy ?_
            refine zu ?_
            refine zb (vi e) ?_
            refine zb z ?_
            refine q8 (qw rfl underlying38 rfl (jr (Q.mono l))) ?_
            refine q8 (ja rfl rfl) ?_
            refine z8 ?_
            refine zz rfl a (fun a=>?_) (fun a=>?_)
            · refine qb ?_
              refine zy ?_
              refine qa ?_
              refine zu ?_
              refine zb S ?_
              refine zb (vi b) ?_
              refine dm (T:=(zx .i64)) (X:=([b]:List Int)) (ps:=[(0,(vi b))]) (css:=[[(vi b)]]) rfl underlying40 zo3 rfl rfl (ji ⟨rfl,trivial⟩) rfl rfl (by decide) fun aX aY ar au=>?_
              refine zb z ?_
              refine zb (vi e) ?_
              obtain⟨V,a⟩:=ze a
              refine kv (i:=e.toNat) rfl z7b rfl (jr (Q.mono l)) (zi rfl V.1) (q9 V) fun aZ av=>?_
              refine j4 rfl z6n rfl av fun a0 aw=>?_
              obtain⟨W,a⟩:=ze a
              refine z10 (i:=0) (X:=([b]:List Int)) (Y:=(ix h e)) rfl underlying40 zo3 rfl rfl rfl au (jr aw) W.1 W.2 fun C a1 ax=>?_
              refine ku (i:=0) rfl ax fun ay t az=>?_
              have Z:VRep (tSl false (zx .i64)) ay C (([b]:List Int)++(ix h e)):=(z7r az)
              refine dm (T:=(tSl false (zx .i64))) (X:=([(([b]:List Int)++(ix h e))]:List (List Int))) (ps:=[(0,C)]) (css:=[[C]]) rfl underlying38 zcz rfl (by simp only [List.map_cons,List.map_nil,nk Z];rfl) (ji ⟨(jo rfl Z),trivial⟩) rfl rfl (by decide) fun aA a2 E aB=>?_
              refine ku (i:=0) rfl aB fun aC u aD=>?_
              have aE:VRep (tSl true (tSl false (zx .i64))) aC aA ([(([b]:List Int)++(ix h e))]:List (List Int)):=(z0m aD E)
              obtain⟨aa,a⟩:=ze a
              refine z10 (i:=0) (X:=p) (Y:=([(([b]:List Int)++(ix h e))]:List (List Int))) rfl underlying38 zcz rfl rfl rfl (U.mono (t.trans u)) (jr (Sub.v (B:=(tSl false (tSl false (zx .i64)))) (uw Sub.refl (fun _=>rfl)) aE)) aa.1 aa.2 fun ab aF aG=>?_
              refine zh ab ?_
              refine z8 ?_
              refine zu ?_
              refine zb (vi e) ?_
              obtain⟨aH,a⟩:=ze a
              refine q8 (qo rfl rfl aH) ?_
              refine zh (vi (e+1)) ?_
              refine z8 ?_
              exact⟨dkt,(t.trans u),jc,(o,e+1,(p++([(([b]:List Int)++(ix h e))]:List (List Int))),ab,aF),Nat.lt_succ_self _,⟨rfl,rfl,trivial⟩,prm,a,aG,trivial⟩
            · refine jb ?_
              exact⟨dkt,(s.trans l),jc,(p,S,aq),⟨rfl,trivial⟩,prm,(Option.some.inj a).symm,U,trivial⟩
          · rintro⟨k,aI,aJ⟩ a3 a4 ac ⟨rfl,aK,_⟩
            refine zu ?_
            refine zb (vi b) ?_
            obtain⟨aL,c⟩:=ze c
            refine q8 (qo rfl rfl aL) ?_
            refine zh (vi (b+1)) ?_
            refine z8 ?_
            exact⟨dkt,ac,jc,(m,k,b+1,aI,aJ),Nat.lt_succ_self _,⟨rfl,rfl,trivial⟩,prm,c,aK,trivial⟩
        · refine jb ?_
          exact⟨dkt,O,jc,(y,L,M),⟨rfl,trivial⟩,prm,(Option.some.inj c).symm,P,trivial⟩
      · rintro⟨j,q,a5⟩ aO a6 ad ⟨rfl,aM,_⟩
        refine zy ?_
        refine zu ?_
        refine zb q ?_
        refine zh q ?_
        refine z8 ?_
        refine z06 (i:=0) rfl aM fun ae G af=>?_
        have ag:VRep (tSl false (tSl false (zx .i64))) ae q j:=(z7r af)
        refine qh ?_
        obtain rfl:=Option.some.inj f
        refine qd (D:=[]) (J:=[]) (rs:=[.tmp 6]) (vs:=[q]) (ad.trans G) rfl rfl ⟨rfl,trivial⟩ ?_
        exact⟨rfl,ag⟩
theorem z7o{N:Nat}{R:RH}{a:Int}{columns:Int}{n:Int}{r:(List (List Int))}(b:dz N N a columns n=some r):CallP prog 58 #[(vi a),(vi columns),(vi n)] R (fun v R'=>VRep (tSl false (tSl false (zx .i64))) R' v r):=z5u N  b
theorem l9{N:Nat}{R:RH}{x:Sa}{b:Value}(e:VRep (zw false false) R b x){row:Int}{column:Int}{r:Bool}(a:ni N x row column=some r):CallP prog 41 #[b,(vi row),(vi column)] R (fun v R'=>v=(.bool r)):=by
 refine ql (args:=[b,(vi row),(vi column)]) func41 rfl rfl fun A=>?_;rw [ni] at a;refine zn (xu (T:=(zw false false)) rfl rfl rfl e fun t u f w l=>?_);refine zh (.bool false) (qx (pq rfl z0y jh rfl l fun y m=>?_));refine j4 rfl z8d rfl m fun z n=>?_
 refine zb (vi row) ?_;obtain⟨c,a⟩:=ze a;refine kv (i:=row.toNat) rfl z7b rfl (jr n) (zi rfl c.1) (q9 c) fun o g=>?_;refine j4 rfl z6n rfl g fun p h=>?_;refine zb (vi column) ?_;obtain⟨d,a⟩:=ze a
 refine kv (i:=column.toNat) rfl z0p rfl (jr h) (zi rfl d.1) (q9 d) fun q j=>?_;refine j4 rfl ty3 rfl j fun s k=>?_;obtain rfl:=qc.1 k;refine q8 (r9 rfl rfl) (zh (.bool (decide (0≤(ix (ix x.fB row) column)))) (z8 (qh ?_)));obtain rfl:=Option.some.inj a
 refine qd (D:=[]) (J:=[]) (rs:=[.tmp 6]) (vs:=[(.bool (decide (0≤(ix (ix x.fB row) column))))]) f rfl rfl ⟨rfl,trivial⟩ ?_;exact⟨rfl,rfl⟩
theorem zke:Enters prog 41:=enters_of func41 rfl (by kernel_rfl)
theorem z8j{N:Nat}{R:RH}{x:Sa}{j:Value}(k:VRep (zw false false) R j x){row:Int}{r:Bool}(c:z0q N x row=some r):CallP prog 16 #[j,(vi row)] R (fun v R'=>v=(.bool r)):=by
 refine ql (args:=[j,(vi row)]) func16 rfl rfl fun A=>?_;rw [z0q] at c;refine zn (xu (T:=(zw false false)) rfl rfl rfl k fun O P e y z=>?_);refine zh (.bool false) (z8 ?_);obtain⟨m,a,c⟩:=zq c
 refine qi (γ:=Unit) (rs [4,20]) (fun g=>[]) (fun g=>[]++A) (fun g R=>m=Ex.go g∧True) ?_ ?_;refine zn (zh (vi 0) (z8 (qa (qy (γ:=Nat×Int) (rs [4,20]) (fun g=>[(5,(vi g.2))]) (fun g=>[]++A) (fun g R=>ym N x row g.1 g.2=some m∧True) (fun g=>g.1) (N,0) prm ⟨a,trivial⟩ ?_))));clear a
 rintro⟨f,d⟩ B C b ⟨a,_⟩;rcases f with _|f;exact qm a;replace a:ym N x row (f+1) d=some m:=a;rw [ym] at a;refine zy (zn (zb (vi d) (pq rfl z0y jh rfl (z.mono b) fun E n=>?_)));refine j4 rfl z8d rfl n fun F o=>?_
 refine zb (vi row) ?_;obtain⟨l,a⟩:=ze a;refine kv (i:=row.toNat) rfl z7b rfl (jr o) (zi rfl l.1) (q9 l) fun G p=>?_;refine j4 rfl z6n rfl p fun H q=>?_;refine q8 (qw rfl underlying40 rfl (jr q)) (q8 (ja rfl rfl) (z8 (zz rfl a (fun a=>?_) (fun a=>?_))))
 refine qb (zy (qa (zn (q8 (jq z1i rfl rfl (y.mono b) (k.mono (e.trans b))) (zb (vi row) (zb (vi d) ?_))))));obtain⟨I,s,a⟩:=zq a;refine j3 rfl zke rfl (l9 (k.mono (e.trans b)) s) fun K L h t=>?_;obtain rfl:=t;refine z8 (zz rfl a (fun a=>?_) (fun a=>?_))
 refine zn (zh (.bool true) (z8 (qh ?_)));replace c:=z0f a c;obtain rfl:=Option.some.inj c;refine qd (D:=[]) (J:=[]) (rs:=[.tmp 4]) (vs:=[(.bool true)]) ((e.trans b).trans h) rfl rfl ⟨rfl,trivial⟩ ?_;exact⟨rfl,rfl⟩;refine qb (zu (zb (vi d) ?_));obtain⟨u,a⟩:=ze a
 refine q8 (qo rfl rfl u) (zh (vi (d+1)) (z8 ?_));exact⟨dkt,h,jc,(f,d+1),Nat.lt_succ_self _,⟨rfl,trivial⟩,prm,a,trivial⟩;refine jb ?_;exact⟨dkt,b,jc,(),trivial,prm,(Option.some.inj a).symm,trivial⟩;rintro Q M S w ⟨rfl,_⟩;replace c:=z13 c;refine zn (zh (.bool false) (z8 (qh ?_)))
 obtain rfl:=Option.some.inj c;refine qd (D:=[]) (J:=[]) (rs:=[.tmp 4]) (vs:=[(.bool false)]) (e.trans w) rfl rfl ⟨rfl,trivial⟩ ?_;exact⟨rfl,rfl⟩
theorem zsg:Enters prog 16:=enters_of func16 rfl (by kernel_rfl)
theorem z8m{N:Nat}{R:RH}{x:Sa}{s:Value}(w:VRep (zw false false) R s x){y:(List Int)}{m:Value}(G:VRep (tSl false (zx .i64)) R m y){r:Bool}(o:iw N x y=some r):CallP prog 59 #[s,m] R (fun v R'=>v=(.bool r)):=by
 refine ql (args:=[s,m]) func59 rfl rfl fun A=>?_;rw [iw] at o;refine zn (xu (T:=(zw false false)) rfl rfl rfl w fun v1 R3 p h5 h2=>?_);refine zh (.bool false) (z8 ?_);obtain⟨U,b,o⟩:=zq o;refine qi (γ:=Unit) (rs [4,37]) (fun g=>[]) (fun g=>[]++A) (fun g R=>U=Ex.go g∧True) ?_ ?_
 refine zn (zh (vi 0) (z8 (qa (qy (γ:=Nat×Int) (rs [4,37]) (fun g=>[(5,(vi g.2))]) (fun g=>[]++A) (fun g R=>yl N x y g.1 g.2=some U∧True) (fun g=>g.1) (N,0) prm ⟨b,trivial⟩ ?_))));clear b;rintro⟨C,j⟩ al am d ⟨b,_⟩;rcases C with _|C;exact qm b
 replace b:yl N x y (C+1) j=some U:=b;rw [yl] at b;refine zy (zn (zb (vi j) (pq rfl z0y jh rfl (h2.mono d) fun an V=>?_)));refine j4 rfl z8d rfl V fun ao W=>?_
 refine q8 (qw rfl underlying38 rfl (jr W)) (q8 (ja rfl rfl) (z8 (zz rfl b (fun b=>?_) (fun b=>?_))));refine qb (zy (qa (zn (q8 (jq z1i rfl rfl (h5.mono d) (w.mono (p.trans d))) (zb (vi j) ?_)))));obtain⟨L,X,b⟩:=zq b
 refine j3 rfl zsg rfl (z8j (w.mono (p.trans d)) X) fun ap aq k Y=>?_;obtain rfl:=Y;refine q8 (nz rfl) (zh (.bool (!L)) (z8 ?_));obtain⟨z,c,b⟩:=zq b;refine qi (γ:=Bool) (rs [6,8,19,35]) (fun g=>[(6,(.bool g))]) (fun g=>[]++A) (fun g R=>z=g∧True) ?_ ?_
 refine zn (zh (vi 0) (z8 (qa (qy (γ:=Nat×Bool×Int) (rs [6,8,19,35]) (fun g=>[(6,(.bool g.2.1)),(7,(vi g.2.2))]) (fun g=>[]++A) (fun g R=>xz N x y j g.1 g.2.1 g.2.2=some z∧True) (fun g=>g.1) (N,!L,0) prm ⟨c,trivial⟩ ?_))));clear c;rintro⟨E,a,e⟩ ar au n ⟨c,_⟩;rcases E with _|E
 exact qm c;replace c:xz N x y j (E+1) a e=some z:=c;rw [xz] at c;refine zy (zn (zb (vi e) (zb m (q8 (qw rfl underlying40 rfl (jr (G.mono (((p.trans d).trans k).trans n)))) (q8 (ja rfl rfl) (z8 (zz rfl c (fun c=>?_) (fun c=>?_))))))))
 refine qb (zy (qa ?_));obtain⟨M,c⟩:=ze c;obtain⟨B,Z,c⟩:=zq c
 refine tu 10 [] [phX (.bool a),phX (.bool a),phG (true&&(a==false)) (phX s),phG (true&&(a==false)) (phX (vi j)),phG (true&&(a==false)) (phX m),phG (true&&(a==false)) (phX (vi e)),phG (true&&(a==false)) (phP (zx .i64) (ix y e)),phG (true&&(a==false)) (phX (vi (ix y e))),phG (true&&(a==false)) (phX (.bool (B.getD default))),phX (.bool (a||(B.getD default)))] mixed (by kernel_rfl) (bi ⟨zf,zf,(qg zf),(qg zf),(qg zf),(qg zf),(qg z2l),(qg zf),(qg zf),zf,trivial⟩) ⟨?_,?_,?_,?_,?_,?_,?_,?_,?_,?_,trivial⟩ fun av O=>?_
 intro l aw f u hd;exact zg rfl rfl rfl (zk (za (u 6 rfl)));rintro l ax f u ⟨q,_⟩;exact zg rfl rfl rfl (zk (za (q rfl)));rintro l ay f u ⟨q,_⟩
 exact zt (Gj:=true) (Bj:=a) rfl rfl rfl (je (q rfl)) rfl (fun F t=>zk (jq z1i rfl (u 2 rfl) ((h5.mono ((d.trans k).trans n)).mono f) ((w.mono (((p.trans d).trans k).trans n)).mono f)));rintro l az f u ⟨q,_⟩;exact zt (Gj:=true) (Bj:=a) rfl rfl rfl (je (q rfl)) rfl (fun F t=>zk (za (u 5 rfl)))
 rintro l aA f u ⟨q,_⟩;exact zt (Gj:=true) (Bj:=a) rfl rfl rfl (je (q rfl)) rfl (fun F t=>zk (za (u 1 rfl)));rintro l aB f u ⟨q,_⟩;exact zt (Gj:=true) (Bj:=a) rfl rfl rfl (je (q rfl)) rfl (fun F t=>zk (za (u 7 rfl)));rintro l aC f u ⟨q,I,d2,_⟩
 exact zt (Gj:=true) (Bj:=a) rfl rfl rfl (je (d2 rfl)) rfl (fun F t=>z1d (i:=e.toNat) z0p (show l 29=m from(q rfl).1 (zo rfl t)) (jr ((G.mono (((p.trans d).trans k).trans n)).mono f)) (zi (show l 30=(vi e) from(I rfl).1 (zo rfl t)) (M (zo F t)).1) (q9 (M (zo F t))))
 rintro l aD f u ⟨q,I,_⟩;exact zt (Gj:=true) (Bj:=a) rfl rfl rfl (je (I rfl)) rfl (fun F t=>j5 (il ty3 rfl ((q rfl).1 (zo rfl t))) (fun _ _ h=>qc.1 h));rintro l K f u ⟨q,I,d2,d3,d4,_⟩;have P:phG (true&&(a==false)) (phX s) (l 27) K:=q rfl
 have Q:phG (true&&(a==false)) (phX (vi j)) (l 28) K:=I rfl;have S:phG (true&&(a==false)) (phX (vi (ix y e))) (l 32) K:=d2 rfl
 exact zt (Gj:=true) (Bj:=a) rfl rfl rfl (je (d3 rfl)) rfl (fun F t=>ui (vs:=[s,(vi j),(vi (ix y e))]) zke (by simp only [List.map,ev,(show l 27=s from P.1 (zo rfl t)),(show l 28=(vi j) from Q.1 (zo rfl t)),(show l 32=(vi (ix y e)) from S.1 (zo rfl t))]<;>rfl) ((by have ac:=(aa Z (zo F t));exact l9 ((w.mono (((p.trans d).trans k).trans n)).mono f) ac)) (fun _ _ h=>h))
 rintro l aF f u ⟨q,I,_⟩;exact zg rfl rfl rfl (zk (mi (q rfl) rfl (fun hb=>(show l 33=(.bool (B.getD default)) from(I rfl).1 (zo rfl hb)))));intro aH ad aI ae aJ aK aL aM aN aO aP aQ aR aS aT aU aV aW aX af;obtain rfl:=Eq.symm ad;obtain rfl:=Eq.symm ae;obtain rfl:=Eq.symm af
 refine zh (.bool (a||(B.getD default))) (z8 (zu (zb (vi e) ?_)));obtain⟨ag,c⟩:=ze c;refine q8 (qo rfl rfl ag) (zh (vi (e+1)) (z8 ?_));exact⟨dkt,O,jc,(E,a||(B.getD default),e+1),Nat.lt_succ_self _,⟨rfl,rfl,trivial⟩,prm,c,trivial⟩;refine jb ?_
 exact⟨dkt,n,jc,a,⟨rfl,trivial⟩,prm,(Option.some.inj c).symm,trivial⟩;rintro z aY aZ H ⟨rfl,_⟩;refine zn (zb (.bool z) (q8 (nz rfl) (z8 (zz rfl b (fun b=>?_) (fun b=>?_)))));refine zn (zh (.bool false) (z8 (qh ?_)));replace o:=z0f b o;obtain rfl:=Option.some.inj o
 refine qd (D:=[]) (J:=[]) (rs:=[.tmp 4]) (vs:=[(.bool false)]) (((p.trans d).trans k).trans H) rfl rfl ⟨rfl,trivial⟩ ?_;exact⟨rfl,rfl⟩;refine qb (zu (zb (vi j) ?_));obtain⟨ah,b⟩:=ze b;refine q8 (qo rfl rfl ah) (zh (vi (j+1)) (z8 ?_))
 exact⟨dkt,(k.trans H),jc,(C,j+1),Nat.lt_succ_self _,⟨rfl,trivial⟩,prm,b,trivial⟩;refine jb ?_;exact⟨dkt,d,jc,(),trivial,prm,(Option.some.inj b).symm,trivial⟩;rintro o6 a0 R8 ai ⟨rfl,_⟩;replace o:=z13 o;refine zn (zh (.bool true) (z8 (qh ?_)));obtain rfl:=Option.some.inj o
 refine qd (D:=[]) (J:=[]) (rs:=[.tmp 4]) (vs:=[(.bool true)]) (p.trans ai) rfl rfl ⟨rfl,trivial⟩ ?_;exact⟨rfl,rfl⟩
theorem zsv:Enters prog 59:=enters_of func59 rfl (by kernel_rfl)
theorem z96{N:Nat}{R:RH}{x:Sa}{q:Value}(p:VRep (zw false false) R q x){r:(List Int)}(j:z0w N x=some r):CallP prog 23 #[q] R (fun v R'=>VRep (tSl false (zx .i64)) R' v r):=by
 refine ql (args:=[q]) func23 rfl rfl fun A=>?_;rw [z0w] at j;refine zn (xu (T:=(zw false false)) rfl rfl rfl p fun v1 R3 m L h2=>?_);refine zh vs0 (z8 ?_);obtain⟨M,b,j⟩:=zq j;refine qi (γ:=Unit) (rs [2,32]) (fun g=>[]) (fun g=>[]++A) (fun g R=>M=Ex.go g∧True) ?_ ?_
 refine zn (zh (vi 0) (z8 (qa (qy (γ:=Nat×Int) (rs [2,32]) (fun g=>[(3,(vi g.2))]) (fun g=>[]++A) (fun g R=>bu N x g.1 g.2=some M∧True) (fun g=>g.1) (N,0) prm ⟨b,trivial⟩ ?_))));clear b;rintro⟨u,s⟩ aj ak c ⟨b,_⟩;rcases u with _|u;exact qm b
 replace b:bu N x (u+1) s=some M:=b;rw [bu] at b;refine zy (zn (zb (vi s) (q8 (jq z1i rfl rfl (L.mono c) (p.mono (m.trans c))) ?_)));obtain⟨al,O,b⟩:=zq b;refine j3 rfl znw rfl (z0u (p.mono (m.trans c)) O) fun am an d P=>?_;obtain rfl:=P
 refine q8 (z4n rfl rfl) (z8 (zz rfl b (fun b=>?_) (fun b=>?_)));refine qb ?_;obtain⟨C,a,b⟩:=zq b;refine qi (γ:=Unit) (rs [2,3,4,6,12,32]) (fun g=>[]) (fun g=>[]++A) (fun g R=>C=Ex.go g∧True) ?_ ?_;refine qa (zn (q8 (jq z1i rfl rfl (L.mono (c.trans d)) (p.mono ((m.trans c).trans d))) ?_))
 obtain⟨ao,Q,a⟩:=zq a;refine j3 rfl znw rfl (z0u (p.mono ((m.trans c).trans d)) Q) fun ap aq n S=>?_;obtain rfl:=S;refine zb (vi s) ?_;obtain⟨w,U,a⟩:=zq a;refine j3 rfl zpt rfl (z7o  U) fun y ar o E=>?_
 refine zh y (qx (zh (vi 0) (z8 (qa (qy (γ:=Nat×Int) (rs [2,3,5,6,16,32]) (fun g=>[(5,(vi g.2))]) (fun g=>[]++A) (fun g R=>bz N x w g.1 g.2=some C∧True) (fun g=>g.1) (N,0) prm ⟨a,trivial⟩ ?_)))));clear a;rintro⟨z,f⟩ au av e ⟨a,_⟩;rcases z with _|z;exact qm a
 replace a:bz N x w (z+1) f=some C:=a;rw [bz] at a;refine zy (zn (zb (vi f) (zb y (q8 (qw rfl underlying38 rfl (jr (E.mono e))) (q8 (ja rfl rfl) (z8 (zz rfl a (fun a=>?_) (fun a=>?_))))))));refine qb (zy (qa (zy ?_)))
 obtain⟨F,a⟩:=ze a;obtain⟨V,W,a⟩:=zq a;refine tu 6 [] [phX q,phX y,phX (vi f),phP (tSl false (zx .i64)) (ix w f),phR (tSl false (zx .i64)) (ix w f),phX (.bool V)] mixed (by kernel_rfl) (bi ⟨zf,zf,zf,z2l,z4m,zf,trivial⟩) ⟨?_,?_,?_,?_,?_,?_,trivial⟩ fun aw t=>?_;intro l ax k B hd
 exact zg rfl rfl rfl (zk (jq z1i rfl (B 1 rfl) ((L.mono ((((c.trans d).trans n).trans o).trans e)).mono k) ((p.mono (((((m.trans c).trans d).trans n).trans o).trans e)).mono k)));intro l ay k B hd;exact zg rfl rfl rfl (zk (za (B 4 rfl)));intro l az k B hd
 exact zg rfl rfl rfl (zk (za (B 5 rfl)));rintro l aA k B ⟨G,X,_⟩;exact zg rfl rfl rfl (z1d (i:=f.toNat) z7b (G rfl) (jr ((E.mono e).mono k)) (zi (X rfl) F.1) (q9 F));rintro l aB k B ⟨G,_⟩;exact zg rfl rfl rfl (il z6n rfl (G rfl));rintro l aC k B ⟨G,X,_⟩;have Y:l 22=q:=G rfl
 exact zg rfl rfl rfl (ui (vs:=[q,(l 26)]) zsv (by simp only [List.map,ev,Y]<;>rfl) (z8m ((p.mono (((((m.trans c).trans d).trans n).trans o).trans e)).mono k) (X rfl) W) (fun _ _ h=>h));intro aD Z aE aa aF ab aG aH aI aJ aK ac;obtain rfl:=Eq.symm Z;obtain rfl:=Eq.symm aa;obtain rfl:=Eq.symm ab
 obtain rfl:=Eq.symm ac;refine z8 (zz rfl a (fun a=>?_) (fun a=>?_));refine zn (zb y (zb (vi f) ?_));obtain⟨H,a⟩:=ze a;refine kv (i:=f.toNat) rfl z7b rfl (jr (E.mono (e.trans t))) (zi rfl H.1) (q9 H) fun aL ad=>?_;refine j4 rfl z6n rfl ad fun I ae=>?_;refine zh I (z8 (qh ?_))
 replace b:=z0f a b;replace j:=z0f b j;obtain rfl:=Option.some.inj j;refine qd (D:=[]) (J:=[]) (rs:=[.tmp 2]) (vs:=[I]) ((((((m.trans c).trans d).trans n).trans o).trans e).trans t) rfl rfl ⟨rfl,trivial⟩ ?_;exact⟨rfl,ae⟩;refine qb (zu (zb (vi f) ?_));obtain⟨af,a⟩:=ze a
 refine q8 (qo rfl rfl af) (zh (vi (f+1)) (z8 ?_));exact⟨dkt,t,jc,(z,f+1),Nat.lt_succ_self _,⟨rfl,trivial⟩,prm,a,trivial⟩;refine jb ?_;exact⟨dkt,((n.trans o).trans e),jc,(),trivial,prm,(Option.some.inj a).symm,trivial⟩;rintro aM aN aO K ⟨rfl,_⟩;replace b:=z13 b;refine zu (zb (vi s) ?_)
 obtain⟨ag,b⟩:=ze b;refine q8 (qo rfl rfl ag) (zh (vi (s+1)) (z8 ?_));exact⟨dkt,(d.trans K),jc,(u,s+1),Nat.lt_succ_self _,⟨rfl,trivial⟩,prm,b,trivial⟩;refine jb ?_;exact⟨dkt,(c.trans d),jc,(),trivial,prm,(Option.some.inj b).symm,trivial⟩;rintro o6 aP R8 ah ⟨rfl,_⟩;replace j:=z13 j
 refine zn (zh vs0 (z8 (qh ?_)));obtain rfl:=Option.some.inj j;refine qd (D:=[]) (J:=[]) (rs:=[.tmp 2]) (vs:=[vs0]) (m.trans ah) rfl rfl ⟨rfl,trivial⟩ ?_;exact⟨rfl,z1p⟩
theorem z7s{N:Nat}{R:RH}{a:(List Int)}{f:Value}(l:VRep (tSl false (zx .i64)) R f a){b:(List Int)}{j:Value}(m:VRep (tSl false (zx .i64)) R j b){r:Int}(d:lg N a b=some r):CallP prog 65 #[f,j] R (fun v R'=>v=(vi r)):=by
 refine ql (args:=[f,j]) func65 rfl rfl fun A=>?_;rw [lg] at d;refine zn (zh (vi 0) (z8 (zy (zn (zb f (q8 (qw rfl underlying40 rfl (jr l)) (zb j (q8 (qw rfl underlying40 rfl (jr m)) (q8 (bf rfl rfl) (z8 (zz rfl d (fun d=>?_) (fun d=>?_))))))))))))
 refine zy (zn (zb f (q8 (qw rfl underlying40 rfl (jr l)) (zb j (q8 (qw rfl underlying40 rfl (jr m)) (q8 (ja rfl rfl) (z8 (zz rfl d (fun d=>?_) (fun d=>?_)))))))));refine zn (zh (vi (-1)) (z8 (qh ?_)));obtain rfl:=Option.some.inj d
 refine qd (D:=[]) (J:=[]) (rs:=[.tmp 4]) (vs:=[(vi (-1))]) (RH.le.refl _) rfl rfl ⟨rfl,trivial⟩ ?_;exact⟨rfl,rfl⟩;refine qb (zn (zh (vi 1) (z8 (qh ?_))));obtain rfl:=Option.some.inj d;refine qd (D:=[]) (J:=[]) (rs:=[.tmp 4]) (vs:=[(vi 1)]) (RH.le.refl _) rfl rfl ⟨rfl,trivial⟩ ?_;exact⟨rfl,rfl⟩;refine qb ?_
 obtain⟨u,c,d⟩:=zq d;refine qi (γ:=Unit) (rs [4,6,16,40]) (fun g=>[]) (fun g=>[]++A) (fun g R=>u=Ex.go g∧True) ?_ ?_
 refine zn (zh (vi 0) (z8 (qa (qy (γ:=Nat×Int) (rs [4,6,16,40]) (fun g=>[(5,(vi g.2))]) (fun g=>[]++A) (fun g R=>xh N a b g.1 g.2=some u∧True) (fun g=>g.1) (N,0) prm ⟨c,trivial⟩ ?_))));clear c;rintro⟨t,k⟩ E O e ⟨c,_⟩;rcases t with _|t;exact qm c
 replace c:xh N a b (t+1) k=some u:=c;rw [xh] at c;refine zy (zn (zb (vi k) (zb f (q8 (qw rfl underlying40 rfl (jr (l.mono e))) (q8 (ja rfl rfl) (z8 (zz rfl c (fun c=>?_) (fun c=>?_))))))))
 refine qb (zy (qa (zy (zy (z6t 9 mixed (by kernel_rfl) (by kernel_rfl) ?_)))));refine z02 (v:=f) (za rfl) ?_;refine z02 (v:=(vi k)) (za rfl) ?_;obtain⟨o,c⟩:=ze c;refine zef (z2k (i:=k.toNat) z0p rfl (jr (l.mono e)) (zi rfl o.1) (q9 o)) fun F w=>?_
 refine z02 (z1z (iy ty3 rfl w)) ?_;refine z02 (v:=j) (za rfl) ?_;refine z02 (v:=(vi k)) (za rfl) ?_;obtain⟨p,c⟩:=ze c;refine zef (z2k (i:=k.toNat) z0p rfl (jr (m.mono e)) (zi rfl p.1) (q9 p)) fun G x=>?_;refine z02 (z1z (iy ty3 rfl x)) ?_;refine z02 (ja rfl rfl) ?_;intro H h
 refine z8 (zz rfl c (fun c=>?_) (fun c=>?_));refine zn (zh (vi (-1)) (z8 (qh ?_)));replace d:=z0f c d;obtain rfl:=Option.some.inj d;refine qd (D:=[]) (J:=[]) (rs:=[.tmp 4]) (vs:=[(vi (-1))]) (e.trans h) rfl rfl ⟨rfl,trivial⟩ ?_;exact⟨rfl,rfl⟩
 refine qb (zy (z6t 9 mixed (by kernel_rfl) (by kernel_rfl) ?_));refine z02 (v:=f) (za rfl) ?_;refine z02 (v:=(vi k)) (za rfl) ?_;obtain⟨q,c⟩:=ze c;refine zef (z2k (i:=k.toNat) z0p rfl (jr (l.mono (e.trans h))) (zi rfl q.1) (q9 q)) fun I y=>?_;refine z02 (z1z (iy ty3 rfl y)) ?_
 refine z02 (v:=j) (za rfl) ?_;refine z02 (v:=(vi k)) (za rfl) ?_;obtain⟨s,c⟩:=ze c;refine zef (z2k (i:=k.toNat) z0p rfl (jr (m.mono (e.trans h))) (zi rfl s.1) (q9 s)) fun K z=>?_;refine z02 (z1z (iy ty3 rfl z)) ?_;refine z02 (rf rfl rfl) ?_;intro L n
 refine z8 (zz rfl c (fun c=>?_) (fun c=>?_));refine zn (zh (vi 1) (z8 (qh ?_)));replace d:=z0f c d;obtain rfl:=Option.some.inj d;refine qd (D:=[]) (J:=[]) (rs:=[.tmp 4]) (vs:=[(vi 1)]) ((e.trans h).trans n) rfl rfl ⟨rfl,trivial⟩ ?_;exact⟨rfl,rfl⟩;refine qb (zu (zb (vi k) ?_))
 obtain⟨B,c⟩:=ze c;refine q8 (qo rfl rfl B) (zh (vi (k+1)) (z8 ?_));exact⟨dkt,(h.trans n),jc,(t,k+1),Nat.lt_succ_self _,⟨rfl,trivial⟩,prm,c,trivial⟩;refine jb ?_;exact⟨dkt,e,jc,(),trivial,prm,(Option.some.inj c).symm,trivial⟩;rintro P M Q C ⟨rfl,_⟩;replace d:=z13 d
 refine zn (zh (vi 0) (z8 (qh ?_)));obtain rfl:=Option.some.inj d;refine qd (D:=[]) (J:=[]) (rs:=[.tmp 4]) (vs:=[(vi 0)]) C rfl rfl ⟨rfl,trivial⟩ ?_;exact⟨rfl,rfl⟩
theorem zsx:Enters prog 65:=enters_of func65 rfl (by kernel_rfl)
theorem z5f{N:Nat}{R:RH}{a:(List (List Int))}{f:Value}(q:VRep (tSl false (tSl false (zx .i64))) R f a){b:(List (List Int))}{m:Value}(s:VRep (tSl false (tSl false (zx .i64))) R m b){r:Bool}(d:z0j N a b=some r):CallP prog 37 #[f,m] R (fun v R'=>v=(.bool r)):=by
 refine ql (args:=[f,m]) func37 rfl rfl fun A=>?_;rw [z0j] at d;refine zn (zh (.bool false) (z8 (zy (zn (zb f (q8 (qw rfl underlying38 rfl (jr q)) (zb m (q8 (qw rfl underlying38 rfl (jr s)) (q8 (bf rfl rfl) (z8 (zz rfl d (fun d=>?_) (fun d=>?_))))))))))))
 refine zn (zh (.bool false) (z8 (qh ?_)));obtain rfl:=Option.some.inj d;refine qd (D:=[]) (J:=[]) (rs:=[.tmp 4]) (vs:=[(.bool false)]) (RH.le.refl _) rfl rfl ⟨rfl,trivial⟩ ?_;exact⟨rfl,rfl⟩;refine qb ?_;obtain⟨z,c,d⟩:=zq d;refine qi (γ:=Unit) (rs [4,6,11,27]) (fun g=>[]) (fun g=>[]++A) (fun g R=>z=Ex.go g∧True) ?_ ?_
 refine zn (zh (vi 0) (z8 (qa (qy (γ:=Nat×Int) (rs [4,6,11,27]) (fun g=>[(5,(vi g.2))]) (fun g=>[]++A) (fun g R=>dn N a b g.1 g.2=some z∧True) (fun g=>g.1) (N,0) prm ⟨c,trivial⟩ ?_))));clear c;rintro⟨y,j⟩ O R8 n ⟨c,_⟩;rcases y with _|y;exact qm c
 replace c:dn N a b (y+1) j=some z:=c;rw [dn] at c;refine zy (zn (zb (vi j) (zb f (q8 (qw rfl underlying38 rfl (jr (q.mono n))) (q8 (ja rfl rfl) (z8 (zz rfl c (fun c=>?_) (fun c=>?_))))))));refine qb (zy (qa (zy ?_)));obtain⟨t,u,c⟩:=zm3 c;obtain⟨w,B,c⟩:=zq c
 refine tu 10 [] [phX f,phX (vi j),phP (tSl false (zx .i64)) (ix a j),phR (tSl false (zx .i64)) (ix a j),phX m,phX (vi j),phP (tSl false (zx .i64)) (ix b j),phR (tSl false (zx .i64)) (ix b j),phX (vi w),phX (.bool (decide (w≠0)))] mixed (by kernel_rfl) (bi ⟨zf,zf,z2l,z4m,zf,zf,z2l,z4m,zf,zf,trivial⟩) ⟨?_,?_,?_,?_,?_,?_,?_,?_,?_,?_,trivial⟩ fun P p=>?_
 intro l Q e k C;exact zg rfl rfl rfl (zk (za (k 0 rfl)));intro l S e k C;exact zg rfl rfl rfl (zk (za (k 5 rfl)));rintro l T e k ⟨o,x,_⟩;exact zg rfl rfl rfl (z1d (i:=j.toNat) z7b (o rfl) (jr ((q.mono n).mono e)) (zi (x rfl) t.1) (q9 t));rintro l U e k ⟨o,_⟩
 exact zg rfl rfl rfl (il z6n rfl (o rfl));intro l V e k C;exact zg rfl rfl rfl (zk (za (k 1 rfl)));intro l W e k C;exact zg rfl rfl rfl (zk (za (k 5 rfl)));rintro l X e k ⟨o,x,_⟩
 exact zg rfl rfl rfl (z1d (i:=j.toNat) z7b (o rfl) (jr ((s.mono n).mono e)) (zi (x rfl) u.1) (q9 u));rintro l Y e k ⟨o,_⟩;exact zg rfl rfl rfl (il z6n rfl (o rfl));rintro l Z e k ⟨o,x,_⟩
 exact zg rfl rfl rfl (ui (vs:=[(l 20),(l 24)]) zsx rfl (z7s (o rfl) (x rfl) B) (fun _ _ h=>h));rintro l aa e k ⟨o,_⟩;exact zg rfl rfl rfl (zk (bf (o rfl) rfl));intro ab E ac F ad ae af ag ah G ai H aj ak al am an I ao K;obtain rfl:=Eq.symm E;obtain rfl:=Eq.symm F;obtain rfl:=Eq.symm G
 obtain rfl:=Eq.symm H;obtain rfl:=Eq.symm I;obtain rfl:=Eq.symm K;refine z8 (zz rfl c (fun c=>?_) (fun c=>?_));refine zn (zh (.bool false) (z8 (qh ?_)));replace d:=z0f c d;obtain rfl:=Option.some.inj d;refine qd (D:=[]) (J:=[]) (rs:=[.tmp 4]) (vs:=[(.bool false)]) (n.trans p) rfl rfl ⟨rfl,trivial⟩ ?_;exact⟨rfl,rfl⟩
 refine qb (zu (zb (vi j) ?_));obtain⟨L,c⟩:=ze c;refine q8 (qo rfl rfl L) (zh (vi (j+1)) (z8 ?_));exact⟨dkt,p,jc,(y,j+1),Nat.lt_succ_self _,⟨rfl,trivial⟩,prm,c,trivial⟩;refine jb ?_;exact⟨dkt,n,jc,(),trivial,prm,(Option.some.inj c).symm,trivial⟩;rintro o2 ap R4 M ⟨rfl,_⟩
 replace d:=z13 d;refine zn (zh (.bool true) (z8 (qh ?_)));obtain rfl:=Option.some.inj d;refine qd (D:=[]) (J:=[]) (rs:=[.tmp 4]) (vs:=[(.bool true)]) M rfl rfl ⟨rfl,trivial⟩ ?_;exact⟨rfl,rfl⟩
theorem zps:Enters prog 37:=enters_of func37 rfl (by kernel_rfl)
theorem xw{N:Nat}{R:RH}{a:(List Int)}{c:Value}(i:VRep (tSl true (zx .i64)) R c a){b:(List Int)}{e:Value}(m:VRep (tSl false (zx .i64)) R e b){r:Bool}(j:ky N a b=some r):CallP prog 22 #[c,e] R (fun v R'=>v=(.bool r)):=by
 refine ql (args:=[c,e]) func22 rfl rfl fun A=>?_;rw [ky] at j
 refine zn (zh (.bool false) (qx (jy (v:=c) rfl (za rfl) (z3y (φ:=phR (tSl true (tSl true (zx .i64))) ([a]:List (List Int))) rfl (z2n (T:=(tSl true (zx .i64))) (X:=([a]:List (List Int))) (ps:=[(0,c)]) (css:=[[c]]) underlying38 zcz rfl (by simp only [List.map_cons,List.map_nil,nk i];rfl) (ji ⟨(jo rfl i),trivial⟩) rfl rfl (by decide)) fun x O f y=>?_))))
 refine jy (v:=e) rfl (za rfl) (z3y (φ:=phR (tSl true (tSl false (zx .i64))) ([b]:List (List Int))) rfl (z2n (T:=(tSl false (zx .i64))) (X:=([b]:List (List Int))) (ps:=[(0,e)]) (css:=[[e]]) underlying38 zcz rfl (by simp only [List.map_cons,List.map_nil,nk (m.mono f)];rfl) (ji ⟨(jo rfl (m.mono f)),trivial⟩) rfl rfl (by decide)) fun z C d n=>?_)
 obtain⟨k,o,j⟩:=zq j;refine z3y (φ:=phX (.bool k)) rfl (ui (vs:=[x,z]) zps rfl (z5f (Sub.v (B:=(tSl false (tSl false (zx .i64)))) (uw (uw Sub.refl (fun _=>rfl)) (fun _=>rfl)) (y.mono d)) (Sub.v (B:=(tSl false (tSl false (zx .i64)))) (uw Sub.refl (fun _=>rfl)) n) o) (fun _ _ h=>h)) fun E F g p=>?_
 obtain rfl:=Eq.symm p;refine jy (v:=(.bool k)) rfl (za rfl) (jd rfl rfl rfl rfl (fun l=>qp (v:=c) (za rfl)) fun G q=>?_);refine jd rfl rfl rfl rfl (fun l=>qp (zlm rfl underlying40 (q.1 (zo rfl l)) (i.mono ((f.trans d).trans g)))) fun H s=>?_
 refine jd rfl rfl rfl rfl (fun l=>qp (v:=c) (za rfl)) fun I t=>?_;refine jd rfl rfl rfl rfl (fun l=>qp (qw rfl underlying40 (t.1 (zo rfl l)) (jr (i.mono ((f.trans d).trans g))))) fun K u=>?_;refine jd rfl rfl rfl rfl (fun l=>qp (ry (s.1 (zo rfl l)) (u.1 (zo rfl l)))) fun L w=>?_
 refine jy rfl (ou rfl (fun M=>(w.1 (zo rfl M))) rfl) (jy (v:=(.bool (k&&(decide ((↑a.length:Int)=(↑a.length:Int)))))) rfl (z0l rfl) (z8 (qh ?_)));obtain rfl:=Option.some.inj j
 refine qd (D:=[]) (J:=[]) (rs:=[.tmp 4]) (vs:=[(.bool (k&&(decide ((↑a.length:Int)=(↑a.length:Int)))))]) ((f.trans d).trans g) rfl rfl ⟨rfl,trivial⟩ ?_;exact⟨rfl,rfl⟩
theorem zo4:ZeroOk prog 4 z3m false 1:=by
 obtain⟨i,zv,hi,a,c,d,f⟩:=z4b (P:=prog) (e:=4) (zv:=(.bool false)) (k:=1) (b:=1) (by kernel_rfl);exact⟨i,zv,hi,a,c,d,fun R=>by subst f;exact rfl⟩
theorem ty4:TyOk prog 4 z3m:=by
 obtain⟨i,hi,a⟩: ∃ i,prog.info? 4=some i∧i.size=1:=tq (by kernel_rfl);exact z1m underlying4 hi rfl a
theorem ziz:SlOk prog 53 4 z3m:=⟨underlying53,ty4⟩
theorem z8s{N:Nat}{R:RH}{x:Sa}{ac:Value}(O:VRep (zw false false) R ac x){r:(List Int)}(C:z0r N x=some r):CallP prog 24 #[ac] R (fun v R'=>VRep (tSl false (zx .i64)) R' v r):=by
 refine ql (args:=[ac]) func24 rfl rfl fun A=>?_;rw [z0r] at C;refine zn (xu (T:=(zw false false)) rfl rfl rfl O fun v1 R3 P h5 h2=>?_);refine zh vs0 (qx (q8 (jq z1i rfl rfl h5 (O.mono P)) ?_));obtain⟨y6,c7,C⟩:=zq C
 refine j3 rfl znw rfl (z0u (O.mono P) c7) fun v8 b5 p h9=>?_;obtain rfl:=h9;obtain⟨am,C⟩:=ze C;refine zbf (T:=z3m) (m:=y6.toNat) (c:=y6.toNat) rfl underlying53 zo4 (zi rfl am.1) (zi rfl am.1) (Nat.le_refl _) (ze3 am) (ze0 am) fun u bn aB bo=>?_;refine zh u (z8 ?_)
 obtain⟨Z,a,C⟩:=zq C;refine qi (γ:=(List Bool)×Frag) (rs [4,11,16,66]) (fun g=>[]) (fun g=>[g.2]++A) (fun g R=>Z=g.1∧ORep z3m R g.2 u g.1∧capOf u=g.1.length∧True) ?_ ?_
 refine qa (qy (γ:=Nat×(List Bool)×Frag) (rs [4,11,16,66]) (fun g=>[]) (fun g=>[g.2.2]++A) (fun g R=>ol N x g.1 g.2.1=some Z∧ORep z3m R g.2.2 u g.2.1∧capOf u=g.2.1.length∧True) (fun g=>g.1) (N,(mk y6 false),bn) prm ⟨a,bo,(aB.trans List.length_replicate.symm),trivial⟩ ?_);clear a
 rintro⟨an,o,F⟩ bF b7 q ⟨a,Q,av,_⟩;rcases an with _|an;exact qm a;replace a:ol N x (an+1) o=some Z:=a;rw [ol] at a;refine qa (zn (zh (vi (-1)) (qx (zh (vi 0) (z8 ?_)))));obtain⟨G,b,a⟩:=zq a
 refine qi (γ:=Int) (rs [4,11,16,61]) (fun g=>[(4,(vi g))]) (fun g=>[F]++A) (fun g R=>G=g∧True) ?_ ?_
 refine zn (zh (vi 0) (z8 (qa (qy (γ:=Nat×Int×Int×Int) (rs [4,11,16,61]) (fun g=>[(4,(vi g.2.1)),(5,(vi g.2.2.1)),(6,(vi g.2.2.2))]) (fun g=>[F]++A) (fun g R=>bg N x o g.1 g.2.1 g.2.2.1 g.2.2.2=some G∧True) (fun g=>g.1) (N,(-1),0,0) prm ⟨b,trivial⟩ ?_))));clear b
 rintro⟨ao,aC,aD,w⟩ bG b8 e ⟨b,_⟩;rcases ao with _|ao;exact qm b;replace b:bg N x o (ao+1) aC aD w=some G:=b;rw [bg] at b
 refine zy (zn (zb (vi w) (zb u (q8 (z2e rfl underlying53 rfl (Q.mono e)) (q8 (ja rfl rfl) (z8 (zz rfl b (fun b=>?_) (fun b=>?_))))))));refine qb ?_;obtain⟨ap,S,b⟩:=zq b
 refine qi (γ:=(Int×Int)) (rs [4,6,7,11,22,61]) (fun g=>[(4,(vi g.1)),(5,(vi g.2))]) (fun g=>[F]++A) (fun g R=>ap=g∧True) ?_ ?_;refine qa (zn (zh (vi 0) (z8 ?_)));obtain⟨I,l,S⟩:=zq S
 refine qi (γ:=Int) (rs [7,11,22,56]) (fun g=>[(7,(vi g))]) (fun g=>[F]++A) (fun g R=>I=g∧True) ?_ ?_
 refine zn (zh (vi 0) (z8 (qa (qy (γ:=Nat×Int×Int) (rs [7,11,22,56]) (fun g=>[(7,(vi g.2.1)),(8,(vi g.2.2))]) (fun g=>[F]++A) (fun g R=>xx N x o w g.1 g.2.1 g.2.2=some I∧True) (fun g=>g.1) (N,0,0) prm ⟨l,trivial⟩ ?_))));clear l;rintro⟨aq,ab,E⟩ bH b9 k ⟨l,_⟩;rcases aq with _|aq
 exact qm l;replace l:xx N x o w (aq+1) ab E=some I:=l;rw [xx] at l;refine zy (zn (zb (vi E) (pq rfl z0y jh rfl (h2.mono (((p.trans q).trans e).trans k)) fun ca bp=>?_)));refine j4 rfl z8d rfl bp fun cb bq=>?_
 refine q8 (qw rfl underlying38 rfl (jr bq)) (q8 (ja rfl rfl) (z8 (zz rfl l (fun l=>?_) (fun l=>?_))));refine qb ?_;obtain⟨aE,y,l⟩:=zq l;refine qi (γ:=Int) (rs [7,8,9,11,29,56]) (fun g=>[(7,(vi g))]) (fun g=>[F]++A) (fun g R=>aE=g∧True) ?_ ?_
 refine qa (zn (q8 (jq z1i rfl rfl (h5.mono (((p.trans q).trans e).trans k)) (O.mono ((((P.trans p).trans q).trans e).trans k))) (zb (vi E) (zb (vi w) ?_))));obtain⟨aO,br,y⟩:=zq y
 refine j3 rfl zke rfl (l9 (O.mono ((((P.trans p).trans q).trans e).trans k)) br) fun cc cd s bs=>?_;obtain rfl:=bs;refine zh (.bool aO) (z8 ?_);obtain⟨ad,f,y⟩:=zq y;refine qi (γ:=Bool) (rs [9,11,33,53]) (fun g=>[(9,(.bool g))]) (fun g=>[F]++A) (fun g R=>ad=g∧True) ?_ ?_
 refine zn (zh (vi 0) (z8 (qa (qy (γ:=Nat×Bool×Int) (rs [9,11,33,53]) (fun g=>[(9,(.bool g.2.1)),(10,(vi g.2.2))]) (fun g=>[F]++A) (fun g R=>gq N x o E g.1 g.2.1 g.2.2=some ad∧True) (fun g=>g.1) (N,aO,0) prm ⟨f,trivial⟩ ?_))));clear f;rintro⟨ar,U,n⟩ bI ce z ⟨f,_⟩;rcases ar with _|ar
 exact qm f;replace f:gq N x o E (ar+1) U n=some ad:=f;rw [gq] at f;refine zy (zn (zb (vi n) (zb u (q8 (z2e rfl underlying53 rfl (Q.mono (((e.trans k).trans s).trans z))) (q8 (ja rfl rfl) (z8 (zz rfl f (fun f=>?_) (fun f=>?_))))))))
 refine qb (zy (qa (zu (jy (v:=(.bool U)) rfl (za rfl) (jy (v:=(.bool U)) rfl (za rfl) (jd rfl rfl rfl rfl (fun t=>qp (v:=u) (za rfl)) fun cf bt=>?_))))));refine jd rfl rfl rfl rfl (fun t=>qp (v:=(vi n)) (za rfl)) fun cg bu=>?_;obtain⟨aF,f⟩:=ze f
 refine jd rfl rfl rfl rfl (fun t=>z7v (i:=n.toNat) ziz (bt.1 (zo rfl t)) (Q.mono (((e.trans k).trans s).trans z)) (zi (bu.1 (zo rfl t)) (aF (zo rfl t)).1) (q9 (aF (zo rfl t)))) fun ch bv=>?_
 refine jd rfl rfl rfl rfl (fun t=>qp (zcw (z9w (i:=n.toNat) (j:=0) ty4 (Q.mono (((e.trans k).trans s).trans z)) rfl rfl (bv.1 (zo rfl t)) (q9 (aF (zo rfl t)))))) fun ci bw=>?_;refine jd rfl rfl rfl rfl (fun t=>qp (v:=(.bool (ix o n))) (za (bw.1 (zo rfl t)))) fun cj ae=>?_
 refine zb9 rfl rfl rfl ae (fun hG t=>qp (v:=ac) (jq z1i rfl rfl (h5.mono (((((p.trans q).trans e).trans k).trans s).trans z)) (O.mono ((((((P.trans p).trans q).trans e).trans k).trans s).trans z)))) fun ck bx=>?_;refine zb9 rfl rfl rfl ae (fun hG t=>qp (v:=(vi E)) (za rfl)) fun cl bz=>?_
 refine zb9 rfl rfl rfl ae (fun hG t=>qp (v:=(vi n)) (za rfl)) fun cm bA=>?_;obtain⟨aH,bB,f⟩:=zq f
 refine zlk rfl rfl rfl ae (fun hG t=>ui (vs:=[ac,(vi E),(vi n)]) zke (z2c (bx.1 (zo hG t)) (z2c (bz.1 (zo hG t)) (z2c (bA.1 (zo hG t)) rfl))) ((by have bC:=(aa bB (zo hG t));exact l9 (O.mono ((((((P.trans p).trans q).trans e).trans k).trans s).trans z)) bC)) (fun _ _ h=>h)) fun bD aP af aI=>?_
 replace aI:phG ((true&&(U==true))&&((ix o n)==true)) (phX (.bool (aH.getD default))) bD aP:=aI;refine jd rfl rfl rfl rfl (fun t=>qp (ou (((qg zf) _ _ _ af ae).1 (zo rfl t)) (fun hb=>(aI.1 (zo (zo rfl t) hb))) rfl)) fun bJ aQ=>?_;refine jd rfl rfl rfl rfl (fun t=>qp (nz (aQ.1 (zo rfl t)))) fun bK aR=>?_
 refine jy rfl (ou rfl (fun hb=>(aR.1 (zo rfl hb))) rfl) (zh (.bool (U&&(!((ix o n)&&(aH.getD default))))) (z8 (zu (zb (vi n) ?_))));obtain⟨aS,f⟩:=ze f;refine q8 (qo rfl rfl aS) (zh (vi (n+1)) (z8 ?_))
 exact⟨dkt,af,jc,(ar,U&&(!((ix o n)&&(aH.getD default))),n+1),Nat.lt_succ_self _,⟨rfl,rfl,trivial⟩,prm,f,trivial⟩;refine jb ?_;exact⟨dkt,z,jc,U,⟨rfl,trivial⟩,prm,(Option.some.inj f).symm,trivial⟩;rintro ad bL cn aw ⟨rfl,_⟩;refine zn (zb (.bool ad) (z8 (zz rfl y (fun y=>?_) (fun y=>?_))))
 refine zu (zb (vi ab) ?_);obtain⟨aT,y⟩:=ze y;refine q8 (qo rfl rfl aT) (zh (vi (ab+1)) (z8 ?_));exact⟨dkt,(s.trans aw),jc,ab+1,⟨rfl,trivial⟩,prm,(Option.some.inj y).symm,trivial⟩;refine qb ?_;exact⟨dkt,(s.trans aw),jc,ab,⟨rfl,trivial⟩,prm,(Option.some.inj y).symm,trivial⟩
 rintro aE bM co aU ⟨rfl,_⟩;refine zu (zb (vi E) ?_);obtain⟨aV,l⟩:=ze l;refine q8 (qo rfl rfl aV) (zh (vi (E+1)) (z8 ?_));exact⟨dkt,aU,jc,(aq,aE,E+1),Nat.lt_succ_self _,⟨rfl,rfl,trivial⟩,prm,l,trivial⟩;refine jb ?_;exact⟨dkt,k,jc,ab,⟨rfl,trivial⟩,prm,(Option.some.inj l).symm,trivial⟩
 rintro I bN cp ax ⟨rfl,_⟩;refine zn (zb (vi I) (zb (vi aD) (q8 (rf rfl rfl) (z8 (zz rfl S (fun S=>?_) (fun S=>?_))))));refine zn (zb (vi w) (zh (vi w) (z8 (zu (zb (vi I) (zh (vi I) (z8 ?_)))))))
 exact⟨dkt,ax,jc,(w,I),⟨rfl,rfl,trivial⟩,prm,(Option.some.inj S).symm,trivial⟩;refine qb ?_;exact⟨dkt,ax,jc,(aC,aD),⟨rfl,rfl,trivial⟩,prm,(Option.some.inj S).symm,trivial⟩;rintro ap bO cq aW ⟨rfl,_⟩;refine zu (zb (vi w) ?_);obtain⟨aX,b⟩:=ze b
 refine q8 (qo rfl rfl aX) (zh (vi (w+1)) (z8 ?_));exact⟨dkt,aW,jc,(ao,ap.1,ap.2,w+1),Nat.lt_succ_self _,⟨rfl,rfl,rfl,trivial⟩,prm,b,trivial⟩;refine jb ?_;exact⟨dkt,e,jc,aC,⟨rfl,trivial⟩,prm,(Option.some.inj b).symm,trivial⟩;rintro G bP cr K ⟨rfl,_⟩
 refine zy (zn (zb (vi G) (q8 (ja rfl rfl) (z8 (zz rfl a (fun a=>?_) (fun a=>?_))))));refine jb ?_;exact⟨dkt,(q.trans K),jc,(o,F),trivial,prm,(Option.some.inj a).symm,(Q.mono K),av,trivial⟩;refine qb (zu (zb u (zb (vi G) ?_)));obtain⟨ag,a⟩:=ze a
 refine z1v (i:=G.toNat) rfl ziz rfl (Q.mono K) (zi rfl ag.1) (q9 ag) fun bQ aY=>?_;refine z4t (i:=G.toNat) (j:=0) ty4 (Q.mono K) rfl rfl aY (q9 ag) rfl (rq.2 rfl) fun aZ a0=>?_;refine z8 ?_
 exact⟨dkt,K,jc,(an,(up o G true),aZ),Nat.lt_succ_self _,trivial,prm,a,a0,(av.trans List.length_set.symm),trivial⟩;rintro⟨Z,aJ⟩ bR cs a1 ⟨rfl,aK,bS,_⟩;refine zn (zh vs0 (z8 ?_));obtain⟨L,a,C⟩:=zq C
 refine qi (γ:=(List Int)×Value×Frag) (rs [11,13,66,80]) (fun g=>[(11,g.2.1)]) (fun g=>[g.2.2]++A) (fun g R=>L=g.1∧ORep (zx .i64) R g.2.2 g.2.1 g.1∧True) ?_ ?_;refine zn (zh (vi 0) (z8 (qa (z6a ?_))))
 refine qy (γ:=Nat×(List Int)×Int×Value×Frag) (rs [11,13,66,80]) (fun g=>[(11,g.2.2.2.1),(12,(vi g.2.2.1))]) (fun g=>[aJ,g.2.2.2.2]++A) (fun g R=>gp N Z g.1 g.2.1 g.2.2.1=some L∧ORep (zx .i64) R g.2.2.2.2 g.2.2.2.1 g.2.1∧True) (fun g=>g.1) (N,[],0,vs0,emp) ⟨[],(pk 1 rfl (pk 0 rfl (List.Perm.refl _)))⟩ ⟨a,(z3h (T:=(zx .i64))),trivial⟩ ?_
 clear a;rintro⟨V,M,d,ah,ay⟩ bT bU H ⟨a,ai,_⟩;rcases V with _|V;exact qm a;replace a:gp N Z (V+1) M d=some L:=a;rw [gp] at a
 refine zy (zn (zb (vi d) (zb u (q8 (z2e rfl underlying53 rfl (aK.mono H)) (q8 (ja rfl rfl) (z8 (zz rfl a (fun a=>?_) (fun a=>?_))))))));refine qb ?_;obtain⟨aj,b,a⟩:=zq a
 refine qi (γ:=(List Int)×Value×Frag) (rs [11,12,72,80]) (fun g=>[(11,g.2.1)]) (fun g=>[aJ,g.2.2]++A) (fun g R=>aj=g.1∧ORep (zx .i64) R g.2.2 g.2.1 g.1∧True) ?_ ?_;refine qa (zn (zb u (zb (vi d) ?_)));obtain⟨ak,b⟩:=ze b
 refine z1v (i:=d.toNat) rfl ziz rfl (aK.mono H) (zi rfl ak.1) (q9 ak) fun bV a2=>?_;refine z7x (i:=d.toNat) (j:=0) rfl ty4 (aK.mono H) rfl rfl a2 (q9 ak) fun bW a3=>?_;obtain rfl:=rq.1 a3;refine z8 (zz rfl b (fun b=>?_) (fun b=>?_))
 refine zu (zb ah (zb (vi d) (dm (T:=(zx .i64)) (X:=([d]:List Int)) (ps:=[(0,(vi d))]) (css:=[[(vi d)]]) rfl underlying40 zo3 rfl rfl (ji ⟨rfl,trivial⟩) rfl rfl (by decide) fun a4 bX au a5=>?_)));refine ku (i:=0) rfl a5 fun a6 al a7=>?_
 have a8:VRep (tSl true (zx .i64)) a6 a4 ([d]:List Int):=(z0m a7 au);obtain⟨az,b⟩:=ze b;refine z10 (i:=1) (X:=M) (Y:=([d]:List Int)) rfl underlying40 zo3 rfl rfl rfl (ai.mono al) (jr (Sub.v (B:=(tSl false (zx .i64))) (uw Sub.refl (fun _=>rfl)) a8)) az.1 az.2 fun aA a9 ba=>?_;refine zh aA (z8 ?_)
 exact⟨dkt,al,jc,((M++([d]:List Int)),aA,a9),⟨rfl,trivial⟩,prm,(Option.some.inj b).symm,ba,trivial⟩;refine qb ?_;exact⟨dkt,(RH.le.refl _),jc,(M,ah,ay),⟨rfl,trivial⟩,prm,(Option.some.inj b).symm,ai,trivial⟩;rintro⟨aj,bb,bc⟩ bY bZ aL ⟨rfl,be,_⟩;refine zu (zb (vi d) ?_)
 obtain⟨bf,a⟩:=ze a;refine q8 (qo rfl rfl bf) (zh (vi (d+1)) (z8 ?_));exact⟨dkt,aL,jc,(V,aj,d+1,bb,bc),Nat.lt_succ_self _,⟨rfl,rfl,trivial⟩,prm,a,be,trivial⟩;refine jb ?_;exact⟨dkt,H,jc,(M,ah,ay),⟨rfl,trivial⟩,⟨[aJ],(List.Perm.refl _)⟩,(Option.some.inj a).symm,ai,trivial⟩
 rintro⟨L,W,b0⟩ b1 b2 aM ⟨rfl,bh,_⟩;refine zn (zb W (zh W (z8 (z06 (i:=0) rfl bh fun bi aN bj=>?_))));have bk:VRep (tSl false (zx .i64)) bi W L:=(z7r bj);refine qh ?_;obtain rfl:=Option.some.inj C
 refine qd (D:=[]) (J:=[]) (rs:=[.tmp 2]) (vs:=[W]) ((((P.trans p).trans a1).trans aM).trans aN) rfl rfl ⟨rfl,trivial⟩ ?_;exact⟨rfl,bk⟩
end GV
end Go.Proofs.YtkhihcleegljhaaGreat
