import Derived.Test.YtnnobdkjgafdmaaShWa
import Derived.Test.YtnnobdkjgafdmaaRows
set_option linter.unusedVariables false
set_option linter.unusedSimpArgs false
set_option linter.unusedSectionVars false
namespace Go.Proofs.Ytnnobdkjgafdmaa
namespace GV
open _root_.Go.Proofs.Try
open Go.IntWalk
set_option maxRecDepth 100000
set_option maxHeartbeats 20000000
theorem q49:Enters prog 87:=enters_of func87 rfl (by kernel_rfl)
theorem zch{N:Nat}{R:RH}{x:Edge}{p0_:Mach}{a:Value}(c:PRep (ji false false) R a p0_){r:Bool}(b:z5d N x p0_=some r):CallP prog 86 #[(z0c x),a] R (fun v R'=>v=(.bool r)):=by
 refine qd (args:=[(z0c x),a]) func86 rfl rfl fun A=>?_;rw [z5d] at b;refine zg (zbb (T:=kEdge) rfl rfl (oz.2 rfl) fun n o d i=>?_);refine zi (.bool false) (qz (qg rfl z06 rfl (c.mono d) fun p j=>?_));refine qg rfl zc7 rfl i fun q k=>?_;obtain rfl:=oz.1 k
 obtain⟨h,f,b⟩:=zn b;refine je rfl q49 rfl (zfx j f) fun l m e g=>?_;obtain rfl:=g;refine zm (mq rfl) (zi (.bool (!h)) (z8 (qj ?_)));obtain rfl:=Option.some.inj b;refine zw (D:=[]) (J:=[]) (rs:=[.tmp 3]) (vs:=[(.bool (!h))]) (d.trans e) rfl rfl ⟨rfl,trivial⟩ ?_;exact⟨rfl,rfl⟩
theorem q3p:Enters prog 86:=enters_of func86 rfl (by kernel_rfl)
theorem z3i{N:Nat}{R:RH}{m:Mach}{q:Value}(F:VRep (ji false false) R q m){r:Int}(b:sj N m=some r):CallP prog 75 #[q] R (fun v R'=>v=(vi r)):=by
 refine qd (args:=[q]) func75 rfl rfl fun A=>?_;rw [sj] at b;refine zg (kv (T:=(ji false false)) rfl rfl rfl F fun E R3 k h5 l=>?_);refine zi (vi 0) (z8 (zt (zg (zj5 rfl (ug z4o z1a rfl l) fun v6 h7=>?_))))
 refine qw rfl (df (jq ty3 rfl h7)) (qw rfl (z00 rfl rfl) (qw (v:=(.bool (decide (16<m.inputs)))) rfl (za rfl) (qb rfl rfl rfl rfl (fun c=>ug zaw z6e rfl l) fun ak G=>?_)));refine qb rfl rfl rfl rfl (fun c=>zq (df (jq ty3 rfl (G.1 (ze rfl c))))) fun al H=>?_
 refine qb rfl rfl rfl rfl (fun c=>zq (z00 (H.1 (ze rfl c)) rfl)) fun am I=>?_;refine qw rfl (xh rfl rfl (fun n=>(I.1 (ze rfl n)))) (qw (v:=(.bool ((decide (16<m.inputs))||(decide (16<m.outputs))))) rfl (za rfl) (qb rfl rfl rfl rfl (fun c=>ug vg jr rfl l) fun an K=>?_))
 refine qb rfl rfl rfl rfl (fun c=>jq lq rfl (K.1 (ze rfl c))) fun ao L=>?_;refine qb rfl rfl rfl rfl (fun c=>zq (ql rfl underlying28 rfl (jd (L.1 (ze rfl c))))) fun ap M=>?_;refine qb rfl rfl rfl rfl (fun c=>zq (z00 (M.1 (ze rfl c)) rfl)) fun aq O=>?_
 refine qw rfl (xh rfl rfl (fun n=>(O.1 (ze rfl n)))) (z8 (zo rfl b (fun b=>?_) (fun b=>?_)));refine zg (zi (vi 3) (z8 (qj ?_)));obtain rfl:=Option.some.inj b;refine zw (D:=[]) (J:=[]) (rs:=[.tmp 2]) (vs:=[(vi 3)]) k rfl rfl ⟨rfl,trivial⟩ ?_;exact⟨rfl,rfl⟩
 refine zz (zt (zg (zj5 rfl (ug z4o z1a rfl l) fun ar P=>?_)));refine qw rfl (df (jq ty3 rfl P)) (qw rfl (j6 rfl rfl) (qw (v:=(.bool (decide (m.inputs<1)))) rfl (za rfl) (qb rfl rfl rfl rfl (fun c=>ug zaw z6e rfl l) fun au Q=>?_)))
 refine qb rfl rfl rfl rfl (fun c=>zq (df (jq ty3 rfl (Q.1 (ze rfl c))))) fun av S=>?_;refine qb rfl rfl rfl rfl (fun c=>zq (j6 (S.1 (ze rfl c)) rfl)) fun aw U=>?_
 refine qw rfl (xh rfl rfl (fun n=>(U.1 (ze rfl n)))) (qw (v:=(.bool ((decide (m.inputs<1))||(decide (m.outputs<1))))) rfl (za rfl) (qb rfl rfl rfl rfl (fun c=>ug vg jr rfl l) fun ax V=>?_));refine qb rfl rfl rfl rfl (fun c=>jq lq rfl (V.1 (ze rfl c))) fun ay W=>?_
 refine qb rfl rfl rfl rfl (fun c=>zq (ql rfl underlying28 rfl (jd (W.1 (ze rfl c))))) fun az X=>?_;refine qb rfl rfl rfl rfl (fun c=>zq (j6 (X.1 (ze rfl c)) rfl)) fun aA Y=>?_;refine qw rfl (xh rfl rfl (fun n=>(Y.1 (ze rfl n)))) (z8 (zo rfl b (fun b=>?_) (fun b=>?_)))
 refine zg (zi (vi 1) (z8 (qj ?_)));obtain rfl:=Option.some.inj b;refine zw (D:=[]) (J:=[]) (rs:=[.tmp 2]) (vs:=[(vi 1)]) k rfl rfl ⟨rfl,trivial⟩ ?_;exact⟨rfl,rfl⟩;refine zz ?_;obtain⟨s,a,b⟩:=zn b;refine j5 (γ:=Unit) (rs [2,3,4,5,33,51]) (fun g=>[]) (fun g=>[]++A) (fun g R=>s=Ex.go g∧True) ?_ ?_
 refine zg (ja rfl vg jr rfl l fun aB Z=>?_);refine qg rfl lq rfl Z fun aC t=>?_
 refine zm (ql rfl underlying28 rfl (jd t)) (zh (vi 0) (z8 (zy (jg (γ:=Nat×Int) (rs [2,3,4,5,36,51]) (fun g=>[(36,(vi g.2))]) (fun g=>[]++A) (fun g R=>nz N m g.1 g.2=some s∧True) (fun g=>g.1) (N,0) prm ⟨a,trivial⟩ ?_))));clear a;rintro⟨o,e⟩ ah aD d ⟨a,_⟩;rcases o with _|o
 exact qy a;replace a:nz N m (o+1) e=some s:=a;rw [nz] at a;refine zg (zm (j6 rfl rfl) (z8 (zt (zo rfl a (fun a=>?_) (fun a=>?_)))));refine zz (zt (zy (zg ?_)));obtain⟨u,a⟩:=zf a
 refine jv (i:=e.toNat) rfl za2 rfl (jd (t.mono d)) (zk rfl u.1) (qh u) fun aE aa=>?_;refine qg rfl z9r rfl aa fun p w=>?_;refine zi p (qz (qw (v:=p) rfl (za rfl) (qw rfl (ql rfl underlying58 rfl (jd w)) (zj5 rfl (ug z4o z1a rfl (l.mono d)) fun aF ab=>?_))))
 refine qw rfl (df (jq ty3 rfl ab)) (qw rfl (wy rfl rfl) (qw (v:=(.bool (decide ((↑(ix m.rows e).length:Int)≠m.inputs)))) rfl (za rfl) (qb rfl rfl rfl rfl (fun c=>zq (v:=p) (za rfl)) fun aG ac=>?_)))
 refine qb rfl rfl rfl rfl (fun c=>zq (v:=(.func (.func 86) #[] #[E])) (l7 (fs:=[]) (cs:=[E]) rfl rfl)) fun aH ad=>?_;obtain⟨ae,af,a⟩:=zn a
 refine z2x rfl rfl rfl rfl (fun c=>xy (vs:=[p,(.func (.func 86) #[] #[E])]) q4c (z4w (ac.1 (ze rfl c)) (z4w (ad.1 (ze rfl c)) rfl)) ((by have ag:=(z0z af (ze rfl c));exact z5b w (zrh (cs:=[E]) q3p fun R1 hq z0 u0 y k0 hy=>by obtain rfl:=oz.1 k0;exact CallP.mono (zch ((l.mono d).mono hq) hy) fun v R2 _ hv=>lu.2 hv) ag)) (fun _ _ h=>h)) fun x z f j=>?_
 replace j:phG (true&&((decide ((↑(ix m.rows e).length:Int)≠m.inputs))==false)) (phX (.bool (ae.getD default))) x z:=j;refine qw rfl (xh rfl rfl (fun n=>(j.1 (ze rfl n)))) (z8 (zo rfl a (fun a=>?_) (fun a=>?_)));refine zg (zi (vi 1) (z8 (qj ?_)));replace b:=ry a b;obtain rfl:=Option.some.inj b
 refine zw (D:=[]) (J:=[]) (rs:=[.tmp 2]) (vs:=[(vi 1)]) ((k.trans d).trans f) rfl rfl ⟨rfl,trivial⟩ ?_;exact⟨rfl,rfl⟩;refine zz (zu ?_);obtain⟨B,a⟩:=zf a;refine zm (jl rfl rfl B) (zh (vi (e+1)) (z8 ?_));exact⟨dkt,f,kg,(o,e+1),Nat.lt_succ_self _,⟨rfl,trivial⟩,prm,a,trivial⟩
 refine jh ?_;exact⟨dkt,d,kg,(),trivial,prm,(Option.some.inj a).symm,trivial⟩;rintro aM ai aN C ⟨rfl,_⟩;replace b:=z0e b;refine zg (zi (vi 0) (z8 (qj ?_)));obtain rfl:=Option.some.inj b;refine zw (D:=[]) (J:=[]) (rs:=[.tmp 2]) (vs:=[(vi 0)]) (k.trans C) rfl rfl ⟨rfl,trivial⟩ ?_;exact⟨rfl,rfl⟩
theorem zyj:Enters prog 75:=enters_of func75 rfl (by kernel_rfl)
theorem q1d: ∀ w,∃ z,(zeroValue 122).run prog w= .ok z w∧z.cells=([.int .i64 0,.nilFunc,.int .i64 0,.nilFunc,.int .i64 0,.nilFunc]:List Value).toArray:=fun w=>⟨(.agg #[(vi 0),.nilFunc,(vi 0),.nilFunc,(vi 0),.nilFunc]),by kernel_rfl,rfl⟩
theorem zz0: ∀ w,(sizeOf 122).run prog w= .ok 6 w:=fun w=>by kernel_rfl
theorem q2d: ∀ w,(isAgg 122).run prog w= .ok true w:=fun w=>by kernel_rfl
theorem zd8{N:Nat}{R:RH}{m:Mach}{b:Value}(d:VRep (ji false false) R b m){r:Mach×Mach×Mach}(c:z6i N m=some r):CallP prog 76 #[b] R (fun v R'=> ∃ u0 g h,v= .agg #[(vi 9),.func (.func 88) #[] #[u0],(vi 11),.func (.func 90) #[] #[g],(vi 12),.func (.func 92) #[] #[h]]∧PRep (ji false false) R' u0 r.1∧PRep (ji false false) R' g r.2.1∧PRep (ji false false) R' h r.2.2):=by
 refine qd (args:=[b]) func76 rfl rfl fun A=>?_;rw [z6i] at c;refine zg (kv (T:=(ji false false)) rfl rfl rfl d fun a l e n f=>?_);refine kw rfl q1d fun j=>?_
 refine qz (zm (l7 (fs:=[]) (cs:=[a]) rfl rfl) (zm (gz (ps:=[(0,(vi 9)),(1,(.func (.func 88) #[] #[a]))]) (v:=(.agg #[(vi 9),(.func (.func 88) #[] #[a])])) rfl (fun w=>by kernel_rfl)) (zm (l7 (fs:=[]) (cs:=[a]) rfl rfl) (zm (gz (ps:=[(0,(vi 11)),(1,(.func (.func 90) #[] #[a]))]) (v:=(.agg #[(vi 11),(.func (.func 90) #[] #[a])])) rfl (fun w=>by kernel_rfl)) (zm (l7 (fs:=[]) (cs:=[a]) rfl rfl) (zm (gz (ps:=[(0,(vi 12)),(1,(.func (.func 92) #[] #[a]))]) (v:=(.agg #[(vi 12),(.func (.func 92) #[] #[a])])) rfl (fun w=>by kernel_rfl)) (zm (gz (ps:=[(0,(.agg #[(vi 9),(.func (.func 88) #[] #[a])])),(1,(.agg #[(vi 11),(.func (.func 90) #[] #[a])])),(2,(.agg #[(vi 12),(.func (.func 92) #[] #[a])]))]) (v:=(.agg #[(vi 9),(.func (.func 88) #[] #[a]),(vi 11),(.func (.func 90) #[] #[a]),(vi 12),(.func (.func 92) #[] #[a])])) rfl (fun w=>by kernel_rfl)) (ku (i:=0) (vs:=[(vi 9),(.func (.func 88) #[] #[a]),(vi 11),(.func (.func 90) #[] #[a]),(vi 12),(.func (.func 92) #[] #[a])]) zz0 rfl rfl rfl rfl rfl rfl (qf rfl (qf rfl (qf rfl (qf rfl (qf rfl (qf rfl ko)))))) ?_))))))))
 refine z8 (qj ?_);obtain rfl:=Option.some.inj c
 refine zw (D:=[]) (J:=[box j [(vi 9),(.func (.func 88) #[] #[a]),(vi 11),(.func (.func 90) #[] #[a]),(vi 12),(.func (.func 92) #[] #[a])] 122]) (rs:=[.cell 2 122]) (vs:=[(.agg #[(vi 9),(.func (.func 88) #[] #[a]),(vi 11),(.func (.func 90) #[] #[a]),(vi 12),(.func (.func 92) #[] #[a])])]) e rfl rfl ⟨⟨_,rfl,fun w k=>z1m (i:=0) k rfl rfl q2d zz0 rfl rfl⟩,trivial⟩ ?_
 exact⟨rfl,⟨a,a,a,rfl,f,f,f⟩⟩
theorem q3e:Enters prog 76:=enters_of func76 rfl (by kernel_rfl)
theorem zvw: ∀ w,∃ z,(zeroValue 121).run prog w= .ok z w∧z.cells=([.int .i64 0,.nilFunc]:List Value).toArray:=fun w=>⟨(.agg #[(vi 0),.nilFunc]),by kernel_rfl,rfl⟩
theorem zu8: ∀ w,(sizeOf 121).run prog w= .ok 2 w:=fun w=>by kernel_rfl
theorem zl8:FieldOk prog 121 1 1:=by
 obtain⟨i,hi,a⟩: ∃ i,prog.info? 41=some i∧i.size=1:=yw (by kernel_rfl);exact fw underlying121 rfl rfl hi (by rw [a];rfl)
theorem q0d: ∀ w,(isAgg 41).run prog w= .ok false w:=fun w=>by kernel_rfl
theorem q1m: ∀ w,∃ z,(zeroValue 146).run prog w= .ok z w∧z.cells=([.slice none 0 0]:List Value).toArray:=fun w=>⟨vs0,by kernel_rfl,rfl⟩
theorem zed{N:Nat}{R:RH}{m:Mach}{a:Value}(d:VRep (ji false false) R a m){r:Mach}(b:z4k N m=some r):CallP prog 106 #[a] R (fun v R'=> ∃ u0,v= .func (.func 112) #[] #[u0]∧PRep (ji false false) R' u0 r):=by
 refine qd (args:=[a]) func106 rfl rfl fun A=>?_;rw [z4k] at b;refine zg (kv (T:=(ji false false)) rfl rfl rfl d fun c g e h f=>?_);refine zi .nilFunc (qz (zm (l7 (fs:=[]) (cs:=[c]) rfl rfl) (zi (.func (.func 112) #[] #[c]) (z8 (qj ?_)))));obtain rfl:=Option.some.inj b
 refine zw (D:=[]) (J:=[]) (rs:=[.tmp 2]) (vs:=[(.func (.func 112) #[] #[c])]) e rfl rfl ⟨rfl,trivial⟩ ?_;exact⟨rfl,⟨c,rfl,f⟩⟩
theorem q2k:Enters prog 106:=enters_of func106 rfl (by kernel_rfl)
theorem zcc{N:Nat}{R:RH}{p0_:Mach}{e:Value}(r:PRep (ji false false) R e p0_):zq7 prog 112 [e] R (fun(x:((Int×Int)×Edge)) vs R=>vs=[(zj8 x.1),(z0c x.2)]) (fun σ B s=>z1l N p0_ σ B s):=by
 intro yv σ B I R1 O s0 Y C ab h0 c hy;refine z4a (args:=[yv,e]) func112 rfl rfl fun A=>?_;dsimp only at c;rw [z1l] at c;refine zg (ja rfl vg jr rfl (r.mono C) fun v1 h2=>?_);refine qg rfl lq rfl h2 fun v3 Z=>?_
 refine zm (ql rfl underlying28 rfl (jd Z)) (zh (vi 0) (z8 (zy (jg (γ:=Nat×σ×Int×(List Frag)) (rs [3,7,10,31]) (fun g=>[(10,(vi g.2.2.1))]) (fun g=>[]++(g.2.2.2++A)) (fun g R=>dx N σ B p0_ g.1 g.2.1 g.2.2.1=some Y∧I g.2.1 R g.2.2.2∧True) (fun g=>g.1) (N,s0,0,O) prm ⟨c,h0,trivial⟩ ?_))));clear c
 rintro⟨P,x6,d,k⟩ af R8 h ⟨c,l,_⟩;rcases P with _|P;exact qy c;replace c:dx N σ B p0_ (P+1) x6 d=some Y:=c;rw [dx] at c;refine zg (zm (j6 rfl rfl) (z8 (zt (zo rfl c (fun c=>?_) (fun c=>?_)))));refine zz ?_;obtain⟨t,b,c⟩:=zn c
 refine j5 (γ:=σ×(List Frag)) (rs [3,7,12,30]) (fun g=>[]) (fun g=>[]++(g.2++A)) (fun g R=>t=Ex.go g.1∧I g.1 R g.2∧True) ?_ ?_;refine zy (zg (zh (vi d) ?_));obtain⟨E,b⟩:=zf b;refine jv (i:=d.toNat) rfl za2 rfl (jd (Z.mono h)) (zk rfl E.1) (qh E) fun ag Q=>?_
 refine qg rfl z9r rfl Q fun F G=>?_
 refine zi (vi d) (zi F (qz (zh F (zm (ql rfl underlying58 rfl (jd G)) (zh (vi 0) (z8 (zy (jg (γ:=Nat×σ×Int×(List Frag)) (rs [5,7,17,30]) (fun g=>[(17,(vi g.2.2.1))]) (fun g=>[]++(g.2.2.2++A)) (fun g R=>bn N σ B p0_ d g.1 g.2.1 g.2.2.1=some t∧I g.2.1 R g.2.2.2∧True) (fun g=>g.1) (N,x6,0,k) prm ⟨b,l,trivial⟩ ?_))))))))
 clear b;rintro⟨j,u,a,m⟩ ah ai f ⟨b,n,_⟩;rcases j with _|j;exact qy b;replace b:bn N σ B p0_ d (j+1) u a=some t:=b;rw [bn] at b;refine zg (zm (j6 rfl rfl) (z8 (zt (zo rfl b (fun b=>?_) (fun b=>?_)))))
 refine zz (zt (zy (zg (zh (vi a) ?_))));obtain⟨H,b⟩:=zf b;refine jv (i:=a.toNat) rfl zbq rfl (jd (G.mono f)) (zk rfl H.1) (qh H) fun aj S=>?_;refine qg rfl zc7 rfl S fun ak T=>?_;obtain rfl:=oz.1 T;refine kw rfl zbp fun y=>?_
 refine zi (vi a) (ku (i:=0) (vs:=[(vi ((ix (ix p0_.rows d) a).to)),(vi ((ix (ix p0_.rows d) a).out))]) z90 rfl rfl rfl rfl rfl rfl (qf rfl (qf rfl ko)) ?_)
 refine qz (zh yv (zh (vi d) (zh (vi a) (zm (gz (ps:=[(0,(vi d)),(1,(vi a))]) (v:=(.agg #[(vi d),(vi a)])) rfl (fun w=>by kernel_rfl)) (zm (bz (i:=0) zvc z90 rfl rfl rfl rfl) ?_)))));obtain⟨z,U,b⟩:=zn b
 refine zew (vs:=[(.agg #[(vi d),(vi a)]),(.agg #[(vi ((ix (ix p0_.rows d) a).to)),(vi ((ix (ix p0_.rows d) a).out))])]) (J:=[box y [(vi ((ix (ix p0_.rows d) a).to)),(vi ((ix (ix p0_.rows d) a).out))] 57]) (Oc:=m) (A:=A) rfl rfl rfl rfl (hy (((d,a):(Int×Int)),(⟨(ix (ix p0_.rows d) a).to,(ix (ix p0_.rows d) a).out⟩:Edge)) u z.1 z.2 _ _ [(.agg #[(vi d),(vi a)]),(.agg #[(vi ((ix (ix p0_.rows d) a).to)),(vi ((ix (ix p0_.rows d) a).out))])] (h.trans f) rfl n U) fun al o p q=>?_
 refine zm (mq rfl) (z8 (zo rfl b (fun b=>?_) (fun b=>?_)));refine qj ?_;replace c:=ry b c;obtain rfl:=Option.some.inj c;refine z2l (D:=[]) (J:=[box y [(vi ((ix (ix p0_.rows d) a).to)),(vi ((ix (ix p0_.rows d) a).out))] 57]) (O':=o) (rs:=[]) (vs:=[]) ((h.trans f).trans p) (List.Perm.refl _) rfl trivial ?_
 exact q;refine zz (zu ?_);obtain⟨V,b⟩:=zf b;refine zm (jl rfl rfl V) (zh (vi (a+1)) (z8 ?_));exact⟨dkt,p,kg,(j,z.2,a+1,o),Nat.lt_succ_self _,⟨rfl,trivial⟩,⟨[box y [(vi ((ix (ix p0_.rows d) a).to)),(vi ((ix (ix p0_.rows d) a).out))] 57],(List.Perm.refl _)⟩,b,q,trivial⟩
 refine jh ?_;exact⟨dkt,f,kg,(u,m),trivial,prm,(Option.some.inj b).symm,n,trivial⟩;rintro⟨W,K⟩ am an L ⟨rfl,M,_⟩;replace c:=z0e c;refine zu ?_;obtain⟨X,c⟩:=zf c;refine zm (jl rfl rfl X) (zh (vi (d+1)) (z8 ?_))
 exact⟨dkt,L,kg,(P,W,d+1,K),Nat.lt_succ_self _,⟨rfl,trivial⟩,prm,c,M,trivial⟩;refine jh ?_;show zd1 _ _ _ _ _ .ret _ [] _ _;obtain rfl:=Option.some.inj c;refine z2l (D:=[]) (J:=[]) (O':=k) (rs:=[]) (vs:=[]) h (List.Perm.refl _) rfl trivial ?_;exact l
theorem q1g:Enters prog 112:=enters_of func112 rfl (by kernel_rfl)
theorem q37: ∀ w,∃ z,(zeroValue 158).run prog w= .ok z w∧z.cells=([.int .i64 0,.int .i64 0]:List Value).toArray:=fun w=>⟨(.agg #[(vi 0),(vi 0)]),by kernel_rfl,rfl⟩
theorem zw8: ∀ w,(sizeOf 158).run prog w= .ok 2 w:=fun w=>by kernel_rfl
theorem zz7: ∀ w,(isAgg 146).run prog w= .ok false w:=fun w=>by kernel_rfl
theorem q11: ∀ w,(isAgg 158).run prog w= .ok true w:=fun w=>by kernel_rfl
theorem zyt:ZeroOk prog 158 kA2tInti64 (((0:Int),(0:Int)):(Int×Int)) 16:=by
 obtain⟨i,zv,hi,a,c,d,f⟩:=z2k (P:=prog) (e:=158) (zv:=(.agg #[(vi 0),(vi 0)])) (k:=2) (b:=16) (by kernel_rfl);exact⟨i,zv,hi,a,c,d,fun R=>by subst f;exact⟨_,_,rfl,rfl,rfl⟩⟩
theorem q1p: ∀ w,(sizeOf 146).run prog w= .ok 1 w:=fun w=>by kernel_rfl
theorem q1k:TyOk prog 158 kA2tInti64:=by
 obtain⟨i,hi,a⟩: ∃ i,prog.info? 158=some i∧i.size=2:=yw (by kernel_rfl);exact z1w underlying158 hi rfl a
theorem q1j:SlOk prog 146 158 kA2tInti64:=⟨underlying146,q1k⟩
theorem zb2{N:Nat}{R:RH}{s:(List (Int×Int))}{a:Value}(b:VRep (tSl false kA2tInti64) R a s){r:(List (Int×Int))}(c:z1x N s=some r):CallP prog 107 #[a] R (fun v R'=>VRep (tSl true kA2tInti64) R' v r):=by
 refine qd (args:=[a]) func107 rfl rfl fun A=>?_;rw [z1x] at c;refine zg (zi vs0 (qz (zh a (zh a (zm (ql rfl underlying146 rfl (jd b)) (zh a (zm (ql rfl underlying146 rfl (jd b)) ?_)))))));obtain⟨d,c⟩:=zf c
 refine zf3 (v:=a) (lo:=(0:Int).toNat) (hi:=(↑s.length:Int).toNat) (mx:=(↑s.length:Int).toNat) rfl q1j rfl (jd b) (.inl ⟨rfl,rfl⟩) (.inr ⟨_,congrArg some (zk rfl (zi0 d))⟩) (.inr ⟨_,congrArg some (zk rfl (zi0 d))⟩) (zqz d) (zfn d) (Nat.le_refl _) (Nat.le_trans (zfn d) (q0b (jd b))) (X':=(cut s 0 (↑s.length:Int))) rfl fun f g e=>?_
 have h:VRep (tSl true kA2tInti64) R f (cut s 0 (↑s.length:Int)):=z5q g (e.trans (zl4 d).symm);refine zi f (z8 (qj ?_));obtain rfl:=Option.some.inj c;refine zw (D:=[]) (J:=[]) (rs:=[.tmp 2]) (vs:=[f]) (RH.le.refl _) rfl rfl ⟨rfl,trivial⟩ ?_;exact⟨rfl,h⟩
theorem q2t:Enters prog 107:=enters_of func107 rfl (by kernel_rfl)
theorem zax{N:Nat}{R:RH}{m:Mach}{t:Value}(u:VRep (ji false false) R t m){r:(List (Int×Int))}(d:z0o N m=some r):CallP prog 100 #[t] R (fun v R'=>VRep (tSl true kA2tInti64) R' v r):=by
 refine qd (args:=[t]) func100 rfl rfl fun A=>?_;rw [z0o] at d;refine zg (kv (T:=(ji false false)) rfl rfl rfl u fun v1 R3 w h5 h2=>?_);refine zi vs0 (qz (kw rfl q1m fun E=>?_));refine z8 (zt (zg (zm (jo z06 rfl rfl h5 (u.mono w)) ?_)));obtain⟨y8,c9,d⟩:=zn d
 refine je rfl q2k rfl (zed (u.mono w) c9) fun aC aD F U=>?_;obtain⟨aE,rfl,V⟩:=U;refine z8 (zy (z9f ?_));obtain⟨W,Z,d⟩:=zn d
 refine zhc (Oc:=[emp,box E [vs0] 146]) (Or:=A) _ (fun(s:List (Int×Int)) R O=> ∃ (e:Value) (f:Frag),(∃ J,O.Perm (J++[box E [e] 146,f]))∧ORep kA2tInti64 R f e s∧True) (fun(s:List (Int×Int)) (c:Code) R O=>False) _ _ rfl q1g (zcc (N:=N) V) (List.Perm.refl _) (by decide) (by rintro _ _ _ rfl;rfl) (by rintro s R2 R3 O2 n ⟨e,f,G,o,_⟩;exact⟨e,f,G,o.mono n,trivial⟩) (fun _ _ _ _ _ _ h=>h) (fun _ _ _ _ _ h=>h.elim) ⟨vs0,emp,⟨[],(pk 1 rfl (pk 0 rfl (List.Perm.refl _)))⟩,(z7o (T:=kA2tInti64)),trivial⟩ Z ?_ ?_ ?_
 rintro a aa aF aG ar aH av aw ax H ⟨e,f,⟨_,G⟩,o,_⟩ p aI;have b:=p;clear p;(try dsimp only at b);refine zdj (zhj G) ?_;obtain rfl:=H;refine zg (kw rfl q37 fun j=>?_);refine ku (i:=0) (vs:=[(vi a.1.1),(vi a.1.2)]) zw8 rfl rfl rfl rfl rfl rfl (qf rfl (qf rfl ko)) ?_
 refine z8 (zu (kw rfl zbp fun k=>?_));refine ku (i:=0) (vs:=[(vi a.2.to),(vi a.2.out)]) z90 rfl rfl rfl rfl rfl rfl (qf rfl (qf rfl ko)) ?_;refine z8 ?_
 refine⟨rfl,rfl,(RH.le.refl _),[box k [(vi a.2.to),(vi a.2.out)] 57,box j [(vi a.1.1),(vi a.1.2)] 158,box E [e] 146,f],List.Perm.refl _,fun aJ=>?_⟩;refine zy (zt ?_);obtain⟨x,ab,b⟩:=zn b
 refine fq 3 [] [phX (.agg #[(vi a.2.to),(vi a.2.out)]),phX (z0c x),phX (.bool (decide (a.2.to=x.to∧a.2.out=x.out)))] mixed (by kernel_rfl) (ow ⟨q8,q8,q8,trivial⟩) ⟨?_,?_,?_,trivial⟩ fun aK g=>?_;intro l aL n ha hd;exact zb rfl rfl rfl (qi (bz (i:=0) zvc z90 (ha 5 rfl) rfl rfl rfl))
 intro l aN n ha hd;exact zb rfl rfl rfl (xy (vs:=[]) q1y rfl (z9z  ab) (fun _ _ h=>h));rintro l aO n ha ⟨d0,d1,_⟩;exact zb rfl rfl rfl (qi (zna q2a (d0 rfl) (d1 rfl)));intro aR ad aS ae aT af;obtain rfl:=Eq.symm ad;obtain rfl:=Eq.symm ae;obtain rfl:=Eq.symm af;refine z8 (zo rfl b (fun b=>?_) (fun b=>?_))
 refine zu (zm (qm (i:=2) zz7 rfl rfl rfl) (zm (bz (i:=1) q11 zw8 rfl rfl rfl rfl) (z1f (T:=kA2tInti64) (X:=([((a.1.1,a.1.2):(Int×Int))]:List (Int×Int))) (ps:=[(0,(.agg #[(vi a.1.1),(vi a.1.2)]))]) (css:=[[(vi a.1.1),(vi a.1.2)]]) rfl underlying146 zyt rfl rfl (vo ⟨⟨_,_,rfl,rfl,rfl⟩,trivial⟩) rfl rfl (by decide) fun ag aU y ah=>?_)))
 refine au (i:=0) rfl ah fun ai q aj=>?_;have ak:VRep (tSl true kA2tInti64) ai ag ([((a.1.1,a.1.2):(Int×Int))]:List (Int×Int)):=(z5q aj y);obtain⟨I,b⟩:=zf b
 refine z4b (i:=3) (X:=aa) (Y:=([((a.1.1,a.1.2):(Int×Int))]:List (Int×Int))) rfl underlying146 zyt rfl rfl rfl (o.mono (g.trans q)) (jd (Sub.v (B:=(tSl false kA2tInti64)) (uw Sub.refl (fun _=>rfl)) ak)) I.1 I.2 fun z K C=>?_
 refine ku (i:=2) (vs:=[z]) q1p rfl rfl (z03 C) rfl rfl rfl (qf (z1z C) ko) ?_;refine z8 ?_;obtain⟨rfl,rfl⟩:=Prod.mk.inj (Option.some.inj b)
 exact⟨rfl,(g.trans q),[box k [(vi a.2.to),(vi a.2.out)] 57,box j [(vi a.1.1),(vi a.1.2)] 158,box E [z] 146,K],List.Perm.refl _,rfl,⟨z,K,⟨[box k [(vi a.2.to),(vi a.2.out)] 57,box j [(vi a.1.1),(vi a.1.2)] 158],(List.Perm.refl _)⟩,C,trivial⟩⟩;refine zz ?_
 obtain⟨rfl,rfl⟩:=Prod.mk.inj (Option.some.inj b)
 exact⟨rfl,g,[box k [(vi a.2.to),(vi a.2.out)] 57,box j [(vi a.1.1),(vi a.1.2)] 158,box E [e] 146,f],List.Perm.refl _,rfl,⟨e,f,⟨[box k [(vi a.2.to),(vi a.2.out)] 57,box j [(vi a.1.1),(vi a.1.2)] 158],(List.Perm.refl _)⟩,(o.mono g),trivial⟩⟩
 rintro aV aW ay L ⟨M,aX,⟨_,G⟩,al,_⟩;refine⟨_,_,G,?_⟩;refine zg (zm (qm (i:=0) zz7 rfl rfl rfl) (au (i:=1) rfl al fun am P an=>?_));have ao:VRep (tSl false kA2tInti64) am M W:=(zca an);obtain⟨aY,ap,d⟩:=zn d;refine je rfl q2t rfl (zb2 ao ap) fun Q aZ S aq=>?_
 refine zi Q (z8 (qj ?_));obtain rfl:=Option.some.inj d;refine zw (D:=[]) (J:=[box E [M] 146]) (rs:=[.tmp 2]) (vs:=[Q]) ((((w.trans F).trans L).trans P).trans S) rfl rfl ⟨rfl,trivial⟩ ?_;exact⟨rfl,aq⟩;exact fun _ _ _ _ _ h=>h.elim
theorem q15:Enters prog 100:=enters_of func100 rfl (by kernel_rfl)
theorem zbr{N:Nat}{R:RH}{m:Mach}{e:Value}(d:VRep (ji false false) R e m){r:Bool×Int}(a:z16 N m=some r):CallP prog 89 #[e] R (fun v R'=>v= .tuple #[(.bool r.1),(vi r.2)]):=by
 refine qd (args:=[e]) func89 rfl rfl fun A=>?_;rw [z16] at a;refine zg (kv (T:=(ji false false)) rfl rfl rfl d fun s t c k u=>?_);refine zi (.bool false) (zi (vi 0) (z8 (zt (zg (zm (jo z06 rfl rfl k (d.mono c)) ?_)))));obtain⟨f,l,a⟩:=zn a
 refine je rfl zyj rfl (z3i (d.mono c) l) fun w n b o=>?_;obtain rfl:=o;refine zi (vi f) (qz (zh (vi f) (zm (wy rfl rfl) (z8 (zo rfl a (fun a=>?_) (fun a=>?_))))));refine zg (zh (vi f) (zi (.bool false) (zi (vi f) (z8 (qj ?_)))));obtain rfl:=Option.some.inj a
 refine zw (D:=[]) (J:=[]) (rs:=[.tmp 2,.tmp 3]) (vs:=[(.bool false),(vi f)]) (c.trans b) rfl rfl ⟨rfl,rfl,trivial⟩ ?_;exact⟨rfl,rfl⟩;refine zz (zg (zm (jo z06 rfl rfl (k.mono b) (d.mono (c.trans b))) ?_));obtain⟨g,i,a⟩:=zn a
 refine je rfl q15 rfl (zax (d.mono (c.trans b)) i) fun p q h j=>?_;refine zm (ql rfl underlying146 rfl (jd j)) (zm (ui rfl rfl) (zi (.bool (decide ((↑g.length:Int)=0))) (zi (vi 0) (z8 (qj ?_)))));obtain rfl:=Option.some.inj a
 refine zw (D:=[]) (J:=[]) (rs:=[.tmp 2,.tmp 3]) (vs:=[(.bool (decide ((↑g.length:Int)=0))),(vi 0)]) ((c.trans b).trans h) rfl rfl ⟨rfl,rfl,trivial⟩ ?_;exact⟨rfl,rfl⟩
theorem q3x:Enters prog 89:=enters_of func89 rfl (by kernel_rfl)
theorem zbo{N:Nat}{R:RH}{p0_:Mach}{a:Value}(c:PRep (ji false false) R a p0_){r:Bool}(b:z1b N p0_=some r):CallP prog 88 #[a] R (fun v R'=>v=(.bool r)):=by
 refine qd (args:=[a]) func88 rfl rfl fun A=>?_;rw [z1b] at b;refine zg (zi (.bool false) (qz (qg rfl z06 rfl c fun i f=>?_)));obtain⟨d,g,b⟩:=zn b;refine je rfl q3x rfl (zbr f g) fun j k e h=>?_;obtain rfl:=h
 refine zh (.tuple #[(.bool d.1),(vi d.2)]) (zm (jf rfl rfl) (zm (jf rfl rfl) (zi (.bool d.1) (zi (vi d.2) (qz (zh (.bool d.1) (zi (.bool d.1) (z8 (qj ?_)))))))));obtain rfl:=Option.some.inj b;refine zw (D:=[]) (J:=[]) (rs:=[.tmp 1]) (vs:=[(.bool d.1)]) e rfl rfl ⟨rfl,trivial⟩ ?_;exact⟨rfl,rfl⟩
theorem q4n:Enters prog 88:=enters_of func88 rfl (by kernel_rfl)
theorem zlg:FieldOk prog 121 0 0:=by
 obtain⟨i,hi,a⟩: ∃ i,prog.info? 33=some i∧i.size=1:=yw (by kernel_rfl);exact fw underlying121 rfl rfl hi (by rw [a];rfl)
theorem q0i: ∀ w,(isAgg 33).run prog w= .ok false w:=fun w=>by kernel_rfl
theorem q2s: ∀ w,∃ z,(zeroValue 117).run prog w= .ok z w∧z.cells=([.slice none 0 0]:List Value).toArray:=fun w=>⟨vs0,by kernel_rfl,rfl⟩
theorem q1n: ∀ w,(sizeOf 117).run prog w= .ok 1 w:=fun w=>by kernel_rfl
theorem q1s: ∀ w,∃ z,(zeroValue 148).run prog w= .ok z w∧z.cells=([.nilFunc]:List Value).toArray:=fun w=>⟨.nilFunc,by kernel_rfl,rfl⟩
theorem q25: ∀ w,(sizeOf 148).run prog w= .ok 1 w:=fun w=>by kernel_rfl
theorem zz8: ∀ w,(isAgg 148).run prog w= .ok false w:=fun w=>by kernel_rfl
theorem zx2: ∀ w,(isAgg 117).run prog w= .ok false w:=fun w=>by kernel_rfl
theorem zz4:Enters prog 101:=enters_of func101 rfl (by kernel_rfl)
theorem z7a{N:Nat}(F:Nat): ∀ {R:RH} {s:Int} {a:Nat} {p0_:List Bool} {e:Value} {fF:Frag} (f:ORep bf R fF e p0_) {p1_:Mach} {d:Value} (k:PRep (ji false false) R d p1_) {b:Nat} {r:List Bool} (c:xe N F s p0_ p1_=some r),CallG prog 101 #[(vi s),(.pointer (some ⟨a,0,none⟩)),d,(.pointer (some ⟨b,0,none⟩))] R [box a [e] 117,fF,box b [.func (.func 101) #[] #[(.pointer (some ⟨a,0,none⟩)),d,(.pointer (some ⟨b,0,none⟩))]] 148] (fun v R' O'=> ∃ l m,v= .tuple #[]∧O'=[box a [l] 117,m,box b [.func (.func 101) #[] #[(.pointer (some ⟨a,0,none⟩)),d,(.pointer (some ⟨b,0,none⟩))]] 148]∧ORep bf R' m l r):=by
  induction F with
  |zero=>intros;rename_i c;exact qy c
  |succ F ih=>
    intro R s a p0_ e fF f p1_ d k b r c
    refine z4a (args:=[(vi s),(.pointer (some ⟨a,0,none⟩)),d,(.pointer (some ⟨b,0,none⟩))]) func101 rfl rfl fun A=>?_
    rw [xe] at c
    refine zt ?_
    refine zt ?_
    refine zu ?_
    refine qw (v:=(vi s)) rfl (za rfl) ?_
    refine qw rfl (ui rfl rfl) ?_
    refine qw (v:=(.bool (decide (s=(-1))))) rfl (za rfl) ?_
    refine qb rfl rfl rfl rfl (fun o=>zq (v:=e) (qm (i:=0) zx2 rfl rfl rfl)) fun v7 h8=>?_
    refine qb rfl rfl rfl rfl (fun o=>zq (v:=(vi s)) (za rfl)) fun v9 G=>?_
    obtain⟨q,c⟩:=zf c
    refine qb rfl rfl rfl rfl (fun o=>z4z (i:=s.toNat) zb0 (h8.1 (ze rfl o)) f (zk (G.1 (ze rfl o)) (q (ze rfl o)).1) (qh (q (ze rfl o)))) fun ae H=>?_
    refine qb rfl rfl rfl rfl (fun o=>zq (zr6 (zaj (i:=s.toNat) (j:=1) ty4 f rfl rfl (H.1 (ze rfl o)) (qh (q (ze rfl o)))))) fun af I=>?_
    refine qw rfl (xh rfl rfl (fun hb=>(I.1 (ze rfl hb)))) ?_
    refine z8 ?_
    refine zo rfl c (fun c=>?_) (fun c=>?_)
    · refine qj ?_
      obtain rfl:=Option.some.inj c
      refine z2l (D:=[]) (J:=[]) (O':=[box a [e] 117,fF,box b [(.func (.func 101) #[] #[(.pointer (some ⟨a,0,none⟩)),d,(.pointer (some ⟨b,0,none⟩))])] 148]) (rs:=[]) (vs:=[]) (RH.le.refl _) ((pk 0 rfl (pk 0 rfl (pk 0 rfl (List.Perm.refl _))))) rfl trivial ?_
      exact⟨e,fF,rfl,rfl,f⟩
    · refine zz ?_
      refine zt ?_
      refine zu ?_
      refine zm (qm (i:=0) zx2 rfl rfl rfl) ?_
      refine zh (vi s) ?_
      obtain⟨t,c⟩:=zf c
      refine z2j (i:=s.toNat) rfl zb0 rfl f (zk rfl t.1) (qh t) fun ah K=>?_
      refine z6v (i:=s.toNat) (j:=1) ty4 f rfl rfl K (qh t) rfl (lu.2 rfl) fun L M=>?_
      refine z8 ?_
      refine zt ?_
      refine zu ?_
      refine ja rfl vg jr rfl k fun ai O=>?_
      refine qg rfl lq rfl O fun aj P=>?_
      refine zh (vi s) ?_
      obtain⟨x,c⟩:=zf c
      refine jv (i:=s.toNat) rfl za2 rfl (jd P) (zk rfl x.1) (qh x) fun ak Q=>?_
      refine qg rfl z9r rfl Q fun al y=>?_
      refine zm (ql rfl underlying58 rfl (jd y)) ?_
      refine zh (vi 0) ?_
      refine z8 ?_
      refine zy ?_
      refine jg (γ:=Nat×Int×(List Bool)×Value×Frag) (rs [6,7,24,33]) (fun g=>[(24,(vi g.2.1))]) (fun g=>[box b [(.func (.func 101) #[] #[(.pointer (some ⟨a,0,none⟩)),d,(.pointer (some ⟨b,0,none⟩))])] 148,box a [g.2.2.2.1] 117,g.2.2.2.2]++A) (fun g R=>xw N (xe N F) s p1_ g.1 g.2.1 g.2.2.1=some r∧ORep bf R g.2.2.2.2 g.2.2.2.1 g.2.2.1∧True) (fun g=>g.1) (N,0,(up p0_ s true),e,L) ⟨[],(pk 2 rfl (pk 0 rfl (pk 0 rfl (List.Perm.refl _))))⟩ ⟨c,M,trivial⟩ ?_
      clear c
      rintro⟨p,h,S,u,w⟩ am an n ⟨c,z,_⟩
      rcases p with _|p
      · exact qy c
      replace c:xw N (xe N F) s p1_ (p+1) h S=some r:=c;rw [xw] at c
      refine zt ?_
      refine zu ?_
      refine zm (j6 rfl rfl) ?_
      refine z8 ?_
      refine zt ?_
      refine zo rfl c (fun c=>?_) (fun c=>?_)
      · refine zz ?_
        refine zt ?_
        refine zy ?_
        refine zt ?_
        refine zu ?_
        obtain⟨B,c⟩:=zf c
        refine jv (i:=h.toNat) rfl zbq rfl (jd (y.mono n)) (zk rfl B.1) (qh B) fun ao T=>?_
        refine qg rfl zc7 rfl T fun ap U=>?_
        obtain rfl:=oz.1 U
        refine kw rfl zbp fun C=>?_
        refine ku (i:=0) (vs:=[(vi ((ix (ix p1_.rows s) h).to)),(vi ((ix (ix p1_.rows s) h).out))]) z90 rfl rfl rfl rfl rfl rfl (qf rfl (qf rfl ko)) ?_
        refine z8 ?_
        refine zu ?_
        refine zm (qm (i:=1) zz8 rfl rfl rfl) ?_
        refine zm (qx z0n rfl) ?_
        refine zm (qm (i:=0) ag3 rfl rfl rfl) ?_
        obtain⟨V,W,c⟩:=zn c
        refine zdw (Oc:=[box a [u] 117,w,box b [(.func (.func 101) #[] #[(.pointer (some ⟨a,0,none⟩)),d,(.pointer (some ⟨b,0,none⟩))])] 148]) (Or:=[box C [(vi ((ix (ix p1_.rows s) h).to)),(vi ((ix (ix p1_.rows s) h).out))] 57]++A) (cs:=[(.pointer (some ⟨a,0,none⟩)),d,(.pointer (some ⟨b,0,none⟩))]) (vs:=[(vi ((ix (ix p1_.rows s) h).to))]) rfl zz4 rfl rfl ((pk 2 rfl (pk 2 rfl (pk 1 rfl (pk 0 rfl (List.Perm.refl _)))))) (ih z (k.mono n) W) fun aq ar ac E X=>?_
        obtain⟨Y,Z,rfl,rfl,aa⟩:=X
        refine z8 ?_
        refine zu ?_
        obtain⟨ab,c⟩:=zf c
        refine zm (jl rfl rfl ab) ?_
        refine zh (vi (h+1)) ?_
        refine z8 ?_
        exact⟨dkt,E,kg,(p,h+1,V,Y,Z),Nat.lt_succ_self _,⟨rfl,trivial⟩,⟨[box C [(vi ((ix (ix p1_.rows s) h).to)),(vi ((ix (ix p1_.rows s) h).out))] 57],(pk 3 rfl (pk 2 rfl (pk 0 rfl (pk 0 rfl (List.Perm.refl _)))))⟩,c,aa,trivial⟩
      · refine jh ?_
        show zd1 _ _ _ _ _ .ret _ [] _ _
        obtain rfl:=Option.some.inj c
        refine z2l (D:=[]) (J:=[]) (O':=[box a [u] 117,w,box b [(.func (.func 101) #[] #[(.pointer (some ⟨a,0,none⟩)),d,(.pointer (some ⟨b,0,none⟩))])] 148]) (rs:=[]) (vs:=[]) n ((pk 1 rfl (pk 1 rfl (pk 0 rfl (List.Perm.refl _))))) rfl trivial ?_
        exact⟨u,w,rfl,rfl,z⟩
theorem z9v{N:Nat}{R:RH}{s:Int}{a:Nat}{p0_:List Bool}{d:Value}{fF:Frag}(g:ORep bf R fF d p0_){p1_:Mach}{c:Value}(h:PRep (ji false false) R c p1_){b:Nat}{r:List Bool}(i:xe N N s p0_ p1_=some r):CallG prog 101 #[(vi s),(.pointer (some ⟨a,0,none⟩)),c,(.pointer (some ⟨b,0,none⟩))] R [box a [d] 117,fF,box b [.func (.func 101) #[] #[(.pointer (some ⟨a,0,none⟩)),c,(.pointer (some ⟨b,0,none⟩))]] 148] (fun v R' O'=> ∃ e f,v= .tuple #[]∧O'=[box a [e] 117,f,box b [.func (.func 101) #[] #[(.pointer (some ⟨a,0,none⟩)),c,(.pointer (some ⟨b,0,none⟩))]] 148]∧ORep bf R' f e r):=z7a N g h i
theorem zbj{N:Nat}{R:RH}{s:(List Bool)}{c:Value}(h:VRep (tSl false bf) R c s){f:Bool}{r:Int}(b:z15 N s f=some r):CallP prog 108 #[c,(.bool f)] R (fun v R'=>v=(vi r)):=by
 refine qd (args:=[c,(.bool f)]) func108 rfl rfl fun A=>?_;rw [z15] at b;refine zg (zi (vi 0) (z8 ?_));obtain⟨l,a,b⟩:=zn b;refine j5 (γ:=Unit) (rs [4,19]) (fun g=>[]) (fun g=>[]++A) (fun g R=>l=Ex.go g∧True) ?_ ?_
 refine zg (zh c (zm (ql rfl underlying117 rfl (jd h)) (zh (vi 0) (z8 (zy (jg (γ:=Nat×Int) (rs [4,6,8,19]) (fun g=>[(8,(vi g.2))]) (fun g=>[]++A) (fun g R=>gq N s f g.1 g.2=some l∧True) (fun g=>g.1) (N,0) prm ⟨a,trivial⟩ ?_))))));clear a;rintro⟨k,d⟩ q x e ⟨a,_⟩;rcases k with _|k
 exact qy a;replace a:gq N s f (k+1) d=some l:=a;rw [gq] at a;refine zg (zm (j6 rfl rfl) (z8 (zt (zo rfl a (fun a=>?_) (fun a=>?_)))));refine zz (zt (zy (zg (zh (vi d) (zi (vi d) (qz (zh (.bool f) (zh c (zh (vi d) ?_)))))))))
 obtain⟨j,a⟩:=zf a;refine jv (i:=d.toNat) rfl zb0 rfl (jd (h.mono e)) (zk rfl j.1) (qh j) fun t m=>?_;refine qg rfl ty4 rfl m fun u n=>?_;obtain rfl:=lu.1 n;refine zm (zwz underlying4 rfl rfl) (z8 (zo rfl a (fun a=>?_) (fun a=>?_)))
 refine zg (zh (vi d) (zi (vi d) (z8 (qj ?_))));replace b:=ry a b;obtain rfl:=Option.some.inj b;refine zw (D:=[]) (J:=[]) (rs:=[.tmp 4]) (vs:=[(vi d)]) e rfl rfl ⟨rfl,trivial⟩ ?_;exact⟨rfl,rfl⟩;refine zz (zu ?_);obtain⟨o,a⟩:=zf a
 refine zm (jl rfl rfl o) (zh (vi (d+1)) (z8 ?_));exact⟨dkt,(RH.le.refl _),kg,(k,d+1),Nat.lt_succ_self _,⟨rfl,trivial⟩,prm,a,trivial⟩;refine jh ?_;exact⟨dkt,e,kg,(),trivial,prm,(Option.some.inj a).symm,trivial⟩;rintro y w z p ⟨rfl,_⟩;replace b:=z0e b;refine zg (zi (vi (-1)) (z8 (qj ?_)))
 obtain rfl:=Option.some.inj b;refine zw (D:=[]) (J:=[]) (rs:=[.tmp 4]) (vs:=[(vi (-1))]) p rfl rfl ⟨rfl,trivial⟩ ?_;exact⟨rfl,rfl⟩
theorem q1u:Enters prog 108:=enters_of func108 rfl (by kernel_rfl)
theorem z9o{N:Nat}{R:RH}{s:(List Bool)}{a:Value}(d:VRep (tSl false bf) R a s){c:Bool}{r:Bool}(b:lm N s c=some r):CallP prog 102 #[a,(.bool c)] R (fun v R'=>v=(.bool r)):=by
 refine qd (args:=[a,(.bool c)]) func102 rfl rfl fun A=>?_;rw [lm] at b;refine zg (zi (.bool false) (qz (zh a (zh (.bool c) ?_))));obtain⟨f,g,b⟩:=zn b;refine je rfl q1u rfl (zbj d g) fun i j e h=>?_;obtain rfl:=h
 refine zm (z02 rfl rfl) (zi (.bool (decide (0≤f))) (z8 (qj ?_)));obtain rfl:=Option.some.inj b;refine zw (D:=[]) (J:=[]) (rs:=[.tmp 4]) (vs:=[(.bool (decide (0≤f)))]) e rfl rfl ⟨rfl,trivial⟩ ?_;exact⟨rfl,rfl⟩
theorem q19:Enters prog 102:=enters_of func102 rfl (by kernel_rfl)
theorem zb1{N:Nat}{R:RH}{m:Mach}{h:Value}(j:VRep (ji false false) R h m){r:Bool×Int}(a:z0x N m=some r):CallP prog 91 #[h] R (fun v R'=>v= .tuple #[(.bool r.1),(vi r.2)]):=by
 refine qd (args:=[h]) func91 rfl rfl fun A=>?_;rw [z0x] at a;refine zg (kv (T:=(ji false false)) rfl rfl rfl j fun o Z f O L=>?_);refine zi (.bool false) (zi (vi 0) (z8 (zt (zg (zm (jo z06 rfl rfl O (j.mono f)) ?_)))));obtain⟨p,P,a⟩:=zn a
 refine je rfl zyj rfl (z3i (j.mono f) P) fun v8 Q e S=>?_;obtain rfl:=S;refine zi (vi p) (qz (zh (vi p) (zm (wy rfl rfl) (z8 (zo rfl a (fun a=>?_) (fun a=>?_))))));refine zg (zh (vi p) (zi (.bool false) (zi (vi p) (z8 (qj ?_)))));obtain rfl:=Option.some.inj a
 refine zw (D:=[]) (J:=[]) (rs:=[.tmp 2,.tmp 3]) (vs:=[(.bool false),(vi p)]) (f.trans e) rfl rfl ⟨rfl,rfl,trivial⟩ ?_;exact⟨rfl,rfl⟩;refine zz (zg (ja rfl vg jr rfl (L.mono e) fun U w=>?_));refine qg rfl lq rfl w fun V x=>?_;refine zm (ql rfl underlying28 rfl (jd x)) ?_
 obtain⟨g,a⟩:=zf a;refine z8a (T:=bf) (m:=(↑m.rows.length:Int).toNat) (c:=(↑m.rows.length:Int).toNat) rfl underlying117 zo4 (zk rfl g.1) (zk rfl g.1) (Nat.le_refl _) (zfe g) (zfj g) fun q y z k=>?_;refine kw rfl q2s fun b=>?_
 refine ku (i:=0) (vs:=[q]) q1n rfl rfl (z03 k) rfl rfl rfl (qf (z1z k) ko) ?_;refine qz (kw rfl q1s fun d=>?_)
 refine qz (zm (l7 (fs:=[]) (cs:=[(.pointer (some ⟨b,0,none⟩)),o,(.pointer (some ⟨d,0,none⟩))]) rfl rfl) (ku (i:=0) (vs:=[(.func (.func 101) #[] #[(.pointer (some ⟨b,0,none⟩)),o,(.pointer (some ⟨d,0,none⟩))])]) q25 rfl rfl rfl rfl rfl rfl (qf rfl ko) ?_));refine qz (zm (qm (i:=0) zz8 rfl rfl rfl) ?_)
 obtain⟨B,C,a⟩:=zn a
 refine zdw (Oc:=[box b [q] 117,y,box d [(.func (.func 101) #[] #[(.pointer (some ⟨b,0,none⟩)),o,(.pointer (some ⟨d,0,none⟩))])] 148]) (Or:=[]++A) (cs:=[(.pointer (some ⟨b,0,none⟩)),o,(.pointer (some ⟨d,0,none⟩))]) (vs:=[(vi 0)]) rfl zz4 rfl rfl ((pk 1 rfl (pk 1 rfl (pk 0 rfl (List.Perm.refl _))))) (z9v k (L.mono e) C) fun W X M s E=>?_
 obtain⟨l,F,rfl,rfl,G⟩:=E;refine qz (zm (qm (i:=0) zx2 rfl rfl rfl) ?_);obtain⟨n,H,a⟩:=zn a;refine zb9 (cs:=[]) (vs:=[l,(.bool false)]) (φ:=fun v=>v=(.bool n)) rfl q19 rfl rfl (fun I t u=>z9o (zca ((zgg 1 rfl G t u):VRep (yn bf) I l B)) H) fun Y K=>?_
 obtain rfl:=K;refine zm (mq rfl) (zi (.bool (!n)) (zi (vi 0) (z8 (qj ?_))));obtain rfl:=Option.some.inj a
 refine zw (D:=[]) (J:=[box b [l] 117,F,box d [(.func (.func 101) #[] #[(.pointer (some ⟨b,0,none⟩)),o,(.pointer (some ⟨d,0,none⟩))])] 148]) (rs:=[.tmp 2,.tmp 3]) (vs:=[(.bool (!n)),(vi 0)]) ((f.trans e).trans s) rfl rfl ⟨rfl,rfl,trivial⟩ ?_;exact⟨rfl,rfl⟩
theorem q3l:Enters prog 91:=enters_of func91 rfl (by kernel_rfl)
theorem zbn{N:Nat}{R:RH}{p0_:Mach}{a:Value}(c:PRep (ji false false) R a p0_){r:Bool}(b:z18 N p0_=some r):CallP prog 90 #[a] R (fun v R'=>v=(.bool r)):=by
 refine qd (args:=[a]) func90 rfl rfl fun A=>?_;rw [z18] at b;refine zg (zi (.bool false) (qz (qg rfl z06 rfl c fun i f=>?_)));obtain⟨d,g,b⟩:=zn b;refine je rfl q3l rfl (zb1 f g) fun j k e h=>?_;obtain rfl:=h
 refine zh (.tuple #[(.bool d.1),(vi d.2)]) (zm (jf rfl rfl) (zm (jf rfl rfl) (zi (.bool d.1) (zi (vi d.2) (qz (zh (.bool d.1) (zi (.bool d.1) (z8 (qj ?_)))))))));obtain rfl:=Option.some.inj b;refine zw (D:=[]) (J:=[]) (rs:=[.tmp 1]) (vs:=[(.bool d.1)]) e rfl rfl ⟨rfl,trivial⟩ ?_;exact⟨rfl,rfl⟩
theorem q3s:Enters prog 90:=enters_of func90 rfl (by kernel_rfl)
theorem q2q: ∀ w,∃ z,(zeroValue 32).run prog w= .ok z w∧z.cells=([.slice none 0 0]:List Value).toArray:=fun w=>⟨vs0,by kernel_rfl,rfl⟩
theorem za3: ∀ w,∃ z,(zeroValue 3).run prog w= .ok z w∧z.cells=([.int .i64 0]:List Value).toArray:=fun w=>⟨(vi 0),by kernel_rfl,rfl⟩
theorem zsj: ∀ w,(sizeOf 32).run prog w= .ok 1 w:=fun w=>by kernel_rfl
theorem zer{N:Nat}{R:RH}{m:Mach}{a:Value}(d:VRep (ji false false) R a m){r:Mach}(b:z4m N m=some r):CallP prog 103 #[a] R (fun v R'=> ∃ u0,v= .func (.func 109) #[] #[u0]∧PRep (ji false false) R' u0 r):=by
 refine qd (args:=[a]) func103 rfl rfl fun A=>?_;rw [z4m] at b;refine zg (kv (T:=(ji false false)) rfl rfl rfl d fun c g e h f=>?_);refine zi .nilFunc (qz (zm (l7 (fs:=[]) (cs:=[c]) rfl rfl) (zi (.func (.func 109) #[] #[c]) (z8 (qj ?_)))));obtain rfl:=Option.some.inj b
 refine zw (D:=[]) (J:=[]) (rs:=[.tmp 2]) (vs:=[(.func (.func 109) #[] #[c])]) e rfl rfl ⟨rfl,trivial⟩ ?_;exact⟨rfl,⟨c,rfl,f⟩⟩
theorem q1a:Enters prog 103:=enters_of func103 rfl (by kernel_rfl)
theorem zzd: ∀ w,∃ z,(zeroValue 166).run prog w= .ok z w∧z.cells=((uq (mr 16 (List.replicate 16 (((0:Int),(0:Int)):(Int×Int)))))).toArray:=fun w=>⟨(.agg #[(vi 0),(vi 0),(vi 0),(vi 0),(vi 0),(vi 0),(vi 0),(vi 0),(vi 0),(vi 0),(vi 0),(vi 0),(vi 0),(vi 0),(vi 0),(vi 0),(vi 0),(vi 0),(vi 0),(vi 0),(vi 0),(vi 0),(vi 0),(vi 0),(vi 0),(vi 0),(vi 0),(vi 0),(vi 0),(vi 0),(vi 0),(vi 0)]),by kernel_rfl,by kernel_rfl⟩
theorem zyz:ArrOk prog 166 16 2:=zaf (e:=158) underlying166 (fun w=>by kernel_rfl)
theorem q1i:ArrOk prog 158 2 1:=zaf (e:=3) underlying158 (fun w=>by kernel_rfl)
theorem zz9: ∀ w,(isAgg 166).run prog w= .ok true w:=fun w=>by kernel_rfl
theorem zwh: ∀ w,(sizeOf 166).run prog w= .ok 32 w:=fun w=>by kernel_rfl
theorem zht{N:Nat}{R:RH}{m:Mach}{n:Value}(O:VRep (ji false false) R n m){p:(List Int)}{h:Value}(P:VRep (tSl false (qo .i64)) R h p){s:Int}{r:(Arr 16 (Int×Int))}(k:z4v N m p s=some r):CallP prog 113 #[n,h,(vi s)] R (fun v R'=>v=(z3h r)):=by
 refine qd (args:=[n,h,(vi s)]) func113 rfl rfl fun A=>?_;rw [z4v] at k;refine zg (kv (T:=(ji false false)) rfl rfl rfl O fun v1 R3 C h5 h2=>?_);refine kw rfl zzd fun M=>?_;refine qz (kw rfl zzd fun B=>?_);refine z8 ?_;obtain⟨e,b,k⟩:=zn k
 refine j5 (γ:=((Arr 16 (Int×Int)))) (rs [8,38]) (fun g=>[]) (fun g=>[box M (uq (mr 16 (List.replicate 16 (((0:Int),(0:Int)):(Int×Int))))) 166,box B (uq g) 166]++A) (fun g R=>e=g∧True) ?_ ?_;refine zg (ja rfl vg jr rfl h2 fun ab Q=>?_);refine qg rfl lq rfl Q fun ac S=>?_
 refine zh (vi s) ?_;obtain⟨E,b⟩:=zf b;refine jv (i:=s.toNat) rfl za2 rfl (jd S) (zk rfl E.1) (qh E) fun ad U=>?_;refine qg rfl z9r rfl U fun ae F=>?_
 refine zm (ql rfl underlying58 rfl (jd F)) (zh (vi 0) (z8 (zy (jg (γ:=Nat×Int×((Arr 16 (Int×Int)))) (rs [8,10,16,38]) (fun g=>[(16,(vi g.2.1))]) (fun g=>[box M (uq (mr 16 (List.replicate 16 (((0:Int),(0:Int)):(Int×Int))))) 166,box B (uq g.2.2) 166]++A) (fun g R=>dh N m p s g.1 g.2.1 g.2.2=some e∧True) (fun g=>g.1) (N,0,(mr 16 (List.replicate 16 (((0:Int),(0:Int)):(Int×Int))))) ⟨[],(pk 1 rfl (pk 0 rfl (List.Perm.refl _)))⟩ ⟨b,trivial⟩ ?_))))
 clear b;rintro⟨l,a,d⟩ af ag f ⟨b,_⟩;rcases l with _|l;exact qy b;replace b:dh N m p s (l+1) a d=some e:=b;rw [dh] at b;refine zg (zm (j6 rfl rfl) (z8 (zt (zo rfl b (fun b=>?_) (fun b=>?_)))));refine zz ?_;obtain⟨t,c,b⟩:=zn b
 refine j5 (γ:=((Arr 16 (Int×Int)))) (rs [8,10,18,37]) (fun g=>[]) (fun g=>[box M (uq (mr 16 (List.replicate 16 (((0:Int),(0:Int)):(Int×Int))))) 166,box B (uq g) 166]++A) (fun g R=>t=g∧True) ?_ ?_;refine zy (zg (zh (vi a) ?_));obtain⟨G,c⟩:=zf c
 refine jv (i:=a.toNat) rfl zbq rfl (jd (F.mono f)) (zk rfl G.1) (qh G) fun ai V=>?_;refine qg rfl zc7 rfl V fun aj W=>?_;obtain rfl:=oz.1 W;refine kw rfl zbp fun u=>?_
 refine zi (vi a) (ku (i:=0) (vs:=[(vi ((ix (ix m.rows s) a).to)),(vi ((ix (ix m.rows s) a).out))]) z90 rfl rfl rfl rfl rfl rfl (qf rfl (qf rfl ko)) ?_)
 refine qz (zh (vi a) (zm (qx z3w rfl) (zm (qm (i:=0) ag3 rfl rfl rfl) (zm (gz (ps:=[(0,(vi ((ix (ix m.rows s) a).out))),(1,(vi (-1)))]) (v:=(.agg #[(vi ((ix (ix m.rows s) a).out)),(vi (-1))])) rfl (fun w=>by kernel_rfl)) ?_))));obtain⟨x,c⟩:=zf c
 refine zm (l9 (i:=a.toNat) zyz rfl (zk rfl x.1) (Nat.lt_of_lt_of_eq (qh x) d.2)) (z5f (sz:=2) (cl:=l6) (z:=(((ix (ix m.rows s) a).out,(-1)):(Int×Int))) (vs:=[(vi ((ix (ix m.rows s) a).out)),(vi (-1))]) (q:=a) (i:=a.toNat) (o:=0) (j:=2) (X:=d) co_A2tInti64.len zw8 rfl rfl (by omega) rfl (Nat.lt_of_lt_of_eq (qh x) d.2) rfl rfl rfl (qf rfl (qf rfl ko)) rfl rfl ?_)
 refine qz (zm (qx z0n rfl) (zm (qm (i:=0) ag3 rfl rfl rfl) (zm (wy rfl rfl) (z8 (zo rfl c (fun c=>?_) (fun c=>?_))))));refine z4j 8 mixed (by kernel_rfl) (by kernel_rfl) ?_;refine pz (v:=(vi a)) (za rfl) ?_;refine pz (v:=h) (za rfl) ?_
 refine pz (v:=(.pointer (some ⟨u,0,none⟩))) (qx z0n rfl) ?_;refine pz (v:=(vi ((ix (ix m.rows s) a).to))) (qm (i:=0) ag3 rfl rfl rfl) ?_;obtain⟨H,c⟩:=zf c;refine z5z (fu (i:=((ix (ix m.rows s) a).to).toNat) z2p rfl (jd (P.mono (C.trans f))) (zk rfl H.1) (qh H)) fun ak Y=>?_
 refine pz (df (jq ty3 rfl Y)) ?_;obtain⟨y,c⟩:=zf c;refine pz (v:=(.pointer (some ⟨B,0+a.toNat*2,none⟩))) (l9 (i:=a.toNat) zyz rfl (zk rfl y.1) (Nat.lt_of_lt_of_eq (qh y) (ah d a (((ix (ix m.rows s) a).out,(-1)):(Int×Int))).2)) ?_
 refine pz (v:=(.pointer (some ⟨B,0+a.toNat*2+1*1,none⟩))) (l9 (i:=1) q1i rfl rfl (by decide)) ?_;intro al I
 refine z5f (sz:=2) (cl:=l6) (z:=(((ix (ah d a (((ix (ix m.rows s) a).out,(-1)):(Int×Int))).1 a).1,(ix p ((ix (ix m.rows s) a).to))):(Int×Int))) (vs:=[(vi (ix p ((ix (ix m.rows s) a).to)))]) (q:=a) (i:=a.toNat) (o:=1) (j:=2) (X:=(ah d a (((ix (ix m.rows s) a).out,(-1)):(Int×Int)))) co_A2tInti64.len sz3 rfl rfl (by omega) rfl (Nat.lt_of_lt_of_eq (qh y) (ah d a (((ix (ix m.rows s) a).out,(-1)):(Int×Int))).2) rfl rfl rfl (qf rfl ko) rfl rfl ?_
 refine z8 ?_
 exact⟨dkt,I,kg,(ah (ah d a (((ix (ix m.rows s) a).out,(-1)):(Int×Int))) a (((ix (ah d a (((ix (ix m.rows s) a).out,(-1)):(Int×Int))).1 a).1,(ix p ((ix (ix m.rows s) a).to))):(Int×Int))),trivial,⟨[box u [(vi ((ix (ix m.rows s) a).to)),(vi ((ix (ix m.rows s) a).out))] 57],(List.Perm.refl _)⟩,(Option.some.inj c).symm,trivial⟩
 refine zz ?_;exact⟨dkt,(RH.le.refl _),kg,(ah d a (((ix (ix m.rows s) a).out,(-1)):(Int×Int))),trivial,⟨[box u [(vi ((ix (ix m.rows s) a).to)),(vi ((ix (ix m.rows s) a).out))] 57],(List.Perm.refl _)⟩,(Option.some.inj c).symm,trivial⟩;rintro t am an K ⟨rfl,_⟩;refine zu ?_;obtain⟨Z,b⟩:=zf b
 refine zm (jl rfl rfl Z) (zh (vi (a+1)) (z8 ?_));exact⟨dkt,K,kg,(l,a+1,t),Nat.lt_succ_self _,⟨rfl,trivial⟩,prm,b,trivial⟩;refine jh ?_;exact⟨dkt,f,kg,d,trivial,prm,(Option.some.inj b).symm,trivial⟩;rintro e ao ap L ⟨rfl,_⟩
 refine zg (zm (dw (j:=1) (v:=(z3h e)) zz9 zwh rfl rfl (co_A16A2tInti64.len _) rfl) (ic (j:=0) (cs:=(uq (mr 16 (List.replicate 16 (((0:Int),(0:Int)):(Int×Int)))))) (cs':=(uq e)) zwh rfl rfl (co_A16A2tInti64.len _) (co_A16A2tInti64.len _) rfl rfl (z0i (za0 _)) ?_));refine z8 (qj ?_)
 obtain rfl:=Option.some.inj k;refine zw (D:=[]) (J:=[box M (uq e) 166,box B (uq e) 166]) (rs:=[.cell 6 166]) (vs:=[(z3h e)]) (C.trans L) rfl rfl ⟨⟨_,rfl,fun w hh=>z5l (i:=0) hh rfl zz9 zwh (co_A16A2tInti64.len _)⟩,trivial⟩ ?_;exact⟨rfl,rfl⟩
theorem q1q:Enters prog 113:=enters_of func113 rfl (by kernel_rfl)
theorem zza: ∀ w,∃ z,(zeroValue 169).run prog w= .ok z w∧z.cells=((gm (⟨(0:Int),(mr 16 (List.replicate 16 (((0:Int),(0:Int)):(Int×Int))))⟩:Sd))).toArray:=fun w=>⟨(.agg #[(vi 0),(vi 0),(vi 0),(vi 0),(vi 0),(vi 0),(vi 0),(vi 0),(vi 0),(vi 0),(vi 0),(vi 0),(vi 0),(vi 0),(vi 0),(vi 0),(vi 0),(vi 0),(vi 0),(vi 0),(vi 0),(vi 0),(vi 0),(vi 0),(vi 0),(vi 0),(vi 0),(vi 0),(vi 0),(vi 0),(vi 0),(vi 0),(vi 0)]),by kernel_rfl,by kernel_rfl⟩
theorem zrl: ∀ w,(sizeOf 169).run prog w= .ok 33 w:=fun w=>by kernel_rfl
theorem zvo: ∀ w,(isAgg 169).run prog w= .ok true w:=fun w=>by kernel_rfl
theorem mz3: ∀ w,(zeroValue 3).run prog w= .ok ((Value.int .i64) (0:Int)) w:=fun w=>by kernel_rfl
theorem kt3:KTy prog 3 1 1 false (fun cs=> ∃ x,cs=[.int .i64 x]):=zr8 underlying3 (by kernel_rfl)
theorem q2u:KTy prog 158 2 (2*1) true (zgs 2 (fun cs=> ∃ x,cs=[.int .i64 x])):=zkx underlying158 (by kernel_rfl) kt3
theorem q06(x:(Int×Int)):zgs 2 (fun cs=> ∃ x,cs=[.int .i64 x]) (l6 x):=⟨[[(vi x.1)],[(vi x.2)]],rfl,by
      intro c a
      simp only [List.mem_cons,List.not_mem_nil,or_false] at a
      rcases a with rfl|rfl
      · exact⟨x.1,rfl⟩
      · exact⟨x.2,rfl⟩,rfl⟩
theorem kt166:KTy prog 166 3 (16*2) true (zgs 16 (zgs 2 (fun cs=> ∃ x,cs=[.int .i64 x]))):=zkx underlying166 (by kernel_rfl) q2u
theorem q03(x:Sd):(fun cs=> ∃ a b,(fun cs=> ∃ x,cs=[.int .i64 x]) a∧(fun cs=> ∃ a b,(zgs 16 (zgs 2 (fun cs=> ∃ x,cs=[.int .i64 x]))) a∧(fun cs=>cs=[]) b∧cs=a++b) b∧cs=a++b) (gm x):=⟨_,_,⟨x.fI,rfl⟩,⟨_,_,(zrk (fun x=>(q06 x)) x.fG),rfl,(List.append_nil _).symm⟩,rfl⟩
theorem q1o:KTy prog 169 4 33 true (fun cs=> ∃ a b,(fun cs=> ∃ x,cs=[.int .i64 x]) a∧(fun cs=> ∃ a b,(zgs 16 (zgs 2 (fun cs=> ∃ x,cs=[.int .i64 x]))) a∧(fun cs=>cs=[]) b∧cs=a++b) b∧cs=a++b):=zpu underlying169 (by kernel_rfl) (by kernel_rfl) (.cons (by decide) rfl (kt3.mono (by decide)) (.cons (by decide) rfl (kt166.mono (by decide)) .nil)) (by
  rintro cs ⟨e,f,c,⟨g,h,d,rfl,rfl⟩,rfl⟩
  simp only [List.length_append,List.length_nil,kt3.len _ c,kt166.len _ d])
theorem zu3:KOk prog 169 ik:=zut q1o (by decide) (by rw [underlying169]) (fun _=>rfl) (fun x=>(q03 x)) zfu za1
theorem zdb{N:Nat}{R:RH}{m:Mach}{G:Value}(H:VRep (ji false false) R G m){p:(List Int)}{o:Value}(y:VRep (tSl false (qo .i64)) R o p){r:(List Int)}(q:z2f N m p=some r):CallP prog 110 #[G,o] R (fun v R'=>VRep (tSl true (qo .i64)) R' v r):=by
 refine qd (args:=[G,o]) func110 rfl rfl fun A=>?_;rw [z2f] at q;refine zg (kv (T:=(ji false false)) rfl rfl rfl H fun v1 R3 n h5 h2=>?_);refine zi vs0 (qz (zhd (ke:=ik) (ve:=(Value.int .i64)) rfl fun I f7 h8=>?_))
 refine zi I (qz (zh o (zm (ql rfl underlying32 rfl (jd (y.mono n))) ?_)));obtain⟨z,q⟩:=zf q;refine z8a (T:=(qo .i64)) (m:=(↑p.length:Int).toNat) (c:=(↑p.length:Int).toNat) rfl underlying32 zo3 (zk rfl z.1) (zk rfl z.1) (Nat.le_refl _) (zfe z) (zfj z) fun f Z K aa=>?_;refine zi f (z8 ?_)
 obtain⟨s,b,q⟩:=zn q;refine j5 (γ:=(List Int)×Frag) (rs [7,12,16,48]) (fun g=>[]) (fun g=>[g.2]++A) (fun g R=>s=g.1∧ORep (qo .i64) R g.2 f g.1∧capOf f=g.1.length∧True) ?_ ?_
 refine zg (zh o (zm (ql rfl underlying32 rfl (jd (y.mono n))) (zh (vi 0) (z8 (zy (jg (γ:=Nat×Int×(List (Sd×Int))×(List Int)×Frag×Frag) (rs [7,12,18,48]) (fun g=>[(18,(vi g.2.1))]) (fun g=>[g.2.2.2.2.1,g.2.2.2.2.2]++A) (fun g R=>pu N m p g.1 g.2.1 g.2.2.1 g.2.2.2.1=some s∧MRep ik (Value.int .i64) R g.2.2.2.2.1 I g.2.2.1∧ORep (qo .i64) R g.2.2.2.2.2 f g.2.2.2.1∧capOf f=g.2.2.2.1.length∧True) (fun g=>g.1) (N,0,[],(mk (↑p.length:Int) (0:Int)),f7,Z) ⟨[],(pk 1 rfl (pk 0 rfl (List.Perm.refl _)))⟩ ⟨b,h8,aa,(K.trans List.length_replicate.symm),trivial⟩ ?_))))))
 clear b;rintro⟨B,a,h,L,P,Q⟩ av aw l ⟨b,C,M,F,_⟩;rcases B with _|B;exact qy b;replace b:pu N m p (B+1) a h L=some s:=b;rw [pu] at b;refine zg (zm (j6 rfl rfl) (z8 (zt (zo rfl b (fun b=>?_) (fun b=>?_)))))
 refine zz (zt (zy (zg (zh (vi a) ?_))));obtain⟨S,b⟩:=zf b;refine jv (i:=a.toNat) rfl z2p rfl (jd (y.mono (n.trans l))) (zk rfl S.1) (qh S) fun ax ab=>?_;refine qg rfl ty3 rfl ab fun ay ac=>?_;obtain rfl:=jy.1 ac
 refine zi (vi a) (zi (vi (ix p a)) (qz (zh (vi (ix p a)) (zm (jo z06 rfl rfl (h5.mono l) (H.mono (n.trans l))) (zh o (zh (vi a) ?_))))));obtain⟨d,ad,b⟩:=zn b;refine je rfl q1q rfl (zht (H.mono (n.trans l)) (y.mono (n.trans l)) ad) fun az aA e ae=>?_
 obtain rfl:=ae
 refine zm (zox (ps:=[(0,(vi (ix p a))),(1,(z3h d))]) (pls:= #[(0,1),(1,32)]) (out:=(gm (⟨(ix p a),d⟩:Sd))) (k:=33) (v:=(ik (⟨(ix p a),d⟩:Sd))) rfl underlying169 (zy6 (co_Srefines_key.len _) zza) (fun w=>by kernel_rfl) (.cons rfl rfl (.last rfl (by simp only [co_A16A2tInti64.len];rfl))) (co_Srefines_key.len _) rfl) (kw rfl zza fun U=>?_)
 refine ic (j:=0) (cs:=(gm (⟨(0:Int),(mr 16 (List.replicate 16 (((0:Int),(0:Int)):(Int×Int))))⟩:Sd))) (cs':=(gm (⟨(ix p a),d⟩:Sd))) zrl rfl rfl (co_Srefines_key.len _) (co_Srefines_key.len _) rfl rfl (z0i (za1 _)) ?_;refine z8 ?_;obtain⟨E,t,b⟩:=zn b
 refine j5 (γ:=(List (Sd×Int))×Frag) (rs [10,12,29,41]) (fun g=>[]) (fun g=>[g.2,Q,box U (gm (⟨(ix p a),d⟩:Sd)) 169]++A) (fun g R=>E=g.1∧MRep ik (Value.int .i64) R g.2 I g.1∧True) ?_ ?_
 refine zg (zh I (zm (dw (j:=0) (v:=(ik (⟨(ix p a),d⟩:Sd))) zvo zrl rfl rfl (co_Srefines_key.len _) rfl) (zm (zm5 (k:=(⟨(ix p a),d⟩:Sd)) underlying164 zu3 mz3 (zge (i:=1) rfl (C.mono e)) rfl rfl) (zh (.tuple #[(vi (z3s (0:Int) h (⟨(ix p a),d⟩:Sd))),(.bool (z4l h (⟨(ix p a),d⟩:Sd)))]) (zm (jf rfl rfl) (zm (jf rfl rfl) (zi (vi (z3s (0:Int) h (⟨(ix p a),d⟩:Sd))) (zi (.bool (z4l h (⟨(ix p a),d⟩:Sd))) (qz (zh (.bool (z4l h (⟨(ix p a),d⟩:Sd))) (zm (mq rfl) (z8 (zo rfl t (fun t=>?_) (fun t=>?_))))))))))))))
 refine zu (zh I (zm (dw (j:=0) (v:=(ik (⟨(ix p a),d⟩:Sd))) zvo zrl rfl rfl (co_Srefines_key.len _) rfl) (zh I (zm (zvq rfl underlying164 rfl (zge (i:=1) rfl (C.mono e))) (zd3 (i:=1) (k:=(⟨(ix p a),d⟩:Sd)) (u:=(↑h.length:Int)) underlying164 zu3 rfl (C.mono e) rfl rfl rfl fun af ag=>?_)))))
 refine z8 ?_;exact⟨dkt,(RH.le.refl _),kg,((z5m h (⟨(ix p a),d⟩:Sd) (↑h.length:Int)),af),trivial,⟨[],(pk 1 rfl (pk 1 rfl (pk 0 rfl (List.Perm.refl _))))⟩,(Option.some.inj t).symm,ag,trivial⟩;refine zz ?_
 exact⟨dkt,(RH.le.refl _),kg,(h,P),trivial,⟨[],(pk 1 rfl (pk 1 rfl (pk 0 rfl (List.Perm.refl _))))⟩,(Option.some.inj t).symm,(C.mono e),trivial⟩;rintro⟨E,ah⟩ aB aC x ⟨rfl,V,_⟩
 refine zu (zh f (zh (vi a) (zh I (zm (dw (j:=2) (v:=(ik (⟨(ix p a),d⟩:Sd))) zvo zrl rfl rfl (co_Srefines_key.len _) rfl) (zm (zgn (k:=(⟨(ix p a),d⟩:Sd)) underlying164 zu3 mz3 (zge (i:=0) rfl V) rfl rfl) ?_)))));obtain⟨O,b⟩:=zf b
 refine z2j (i:=a.toNat) rfl z2p rfl (M.mono (e.trans x)) (zk rfl O.1) (qh O) fun aD ai=>?_;refine z6v (i:=a.toNat) (j:=1) ty3 (M.mono (e.trans x)) rfl rfl ai (qh O) rfl (jy.2 rfl) fun aj ak=>?_;refine z8 (zu ?_);obtain⟨al,b⟩:=zf b
 refine zm (jl rfl rfl al) (zh (vi (a+1)) (z8 ?_))
 exact⟨dkt,(e.trans x),kg,(B,a+1,E,(up L a (z3s (0:Int) E (⟨(ix p a),d⟩:Sd))),ah,aj),Nat.lt_succ_self _,⟨rfl,trivial⟩,⟨[box U (gm (⟨(ix p a),d⟩:Sd)) 169],(pk 2 rfl (pk 0 rfl (pk 0 rfl (List.Perm.refl _))))⟩,b,V,ak,(F.trans List.length_set.symm),trivial⟩;refine jh ?_
 exact⟨dkt,l,kg,(L,Q),trivial,⟨[P],(List.Perm.refl _)⟩,(Option.some.inj b).symm,M,F,trivial⟩;rintro⟨s,aE⟩ aF aG W ⟨rfl,am,X,_⟩;refine zg (zh f (zi f (z8 (z5j (i:=0) rfl am fun an Y ao=>?_))));have ap:VRep (tSl true (qo .i64)) an f s:=(z5q ao X);refine qj ?_;obtain rfl:=Option.some.inj q
 refine zw (D:=[]) (J:=[]) (rs:=[.tmp 4]) (vs:=[f]) ((n.trans W).trans Y) rfl rfl ⟨rfl,trivial⟩ ?_;exact⟨rfl,ap⟩
theorem q0y:Enters prog 110:=enters_of func110 rfl (by kernel_rfl)
theorem zc3{N:Nat}{R:RH}{s1_:(List Int)}{b:Value}(e:VRep (tSl false (qo .i64)) R b s1_){s2_:(List Int)}{d:Value}(f:VRep (tSl false (qo .i64)) R d s2_){r:Bool}(c:slices_Equal_int N s1_ s2_=some r):CallP prog 111 #[b,d] R (fun v R'=>v=(.bool r)):=by
 refine qd (args:=[b,d]) func111 rfl rfl fun A=>?_;rw [slices_Equal_int] at c;refine zg (zi (.bool false) (z8 (zt (zg (zh b (zm (ql rfl underlying32 rfl (jd e)) (zh d (zm (ql rfl underlying32 rfl (jd f)) (zm (wy rfl rfl) (z8 (zo rfl c (fun c=>?_) (fun c=>?_))))))))))))
 refine zg (zi (.bool false) (z8 (qj ?_)));obtain rfl:=Option.some.inj c;refine zw (D:=[]) (J:=[]) (rs:=[.tmp 4]) (vs:=[(.bool false)]) (RH.le.refl _) rfl rfl ⟨rfl,trivial⟩ ?_;exact⟨rfl,rfl⟩;refine zz ?_;obtain⟨o,a,c⟩:=zn c;refine j5 (γ:=Unit) (rs [4,6,11,26]) (fun g=>[]) (fun g=>[]++A) (fun g R=>o=Ex.go g∧True) ?_ ?_
 refine zg (zh b (zm (ql rfl underlying32 rfl (jd e)) (zh (vi 0) (z8 (zy (jg (γ:=Nat×Int) (rs [4,6,13,26]) (fun g=>[(13,(vi g.2))]) (fun g=>[]++A) (fun g R=>bi N s1_ s2_ g.1 g.2=some o∧True) (fun g=>g.1) (N,0) prm ⟨a,trivial⟩ ?_))))));clear a;rintro⟨n,h⟩ u B j ⟨a,_⟩
 rcases n with _|n;exact qy a;replace a:bi N s1_ s2_ (n+1) h=some o:=a;rw [bi] at a;refine zg (zm (j6 rfl rfl) (z8 (zt (zo rfl a (fun a=>?_) (fun a=>?_)))))
 refine zz (zt (zy (zg (zh (vi h) (zi (vi h) (z8 (zt (z4j 9 mixed (by kernel_rfl) (by kernel_rfl) ?_))))))));refine pz (v:=b) (za rfl) ?_;refine pz (v:=(vi h)) (za rfl) ?_;obtain⟨l,a⟩:=zf a
 refine z5z (fu (i:=h.toNat) z2p rfl (jd (e.mono j)) (zk rfl l.1) (qh l)) fun w p=>?_;refine pz (df (jq ty3 rfl p)) ?_;refine pz (v:=d) (za rfl) ?_;refine pz (v:=(vi h)) (za rfl) ?_;obtain⟨m,a⟩:=zf a
 refine z5z (fu (i:=h.toNat) z2p rfl (jd (f.mono j)) (zk rfl m.1) (qh m)) fun x q=>?_;refine pz (df (jq ty3 rfl q)) ?_;refine pz (wy rfl rfl) ?_;intro y k;refine z8 (zo rfl a (fun a=>?_) (fun a=>?_));refine zg (zi (.bool false) (z8 (qj ?_)));replace c:=ry a c
 obtain rfl:=Option.some.inj c;refine zw (D:=[]) (J:=[]) (rs:=[.tmp 4]) (vs:=[(.bool false)]) (j.trans k) rfl rfl ⟨rfl,trivial⟩ ?_;exact⟨rfl,rfl⟩;refine zz (zu ?_);obtain⟨s,a⟩:=zf a;refine zm (jl rfl rfl s) (zh (vi (h+1)) (z8 ?_));exact⟨dkt,k,kg,(n,h+1),Nat.lt_succ_self _,⟨rfl,trivial⟩,prm,a,trivial⟩
 refine jh ?_;exact⟨dkt,j,kg,(),trivial,prm,(Option.some.inj a).symm,trivial⟩;rintro C z E t ⟨rfl,_⟩;replace c:=z0e c;refine zg (zi (.bool true) (z8 (qj ?_)));obtain rfl:=Option.some.inj c;refine zw (D:=[]) (J:=[]) (rs:=[.tmp 4]) (vs:=[(.bool true)]) t rfl rfl ⟨rfl,trivial⟩ ?_;exact⟨rfl,rfl⟩
theorem q2v:Enters prog 111:=enters_of func111 rfl (by kernel_rfl)
theorem zc6{N:Nat}{R:RH}{p0_:Mach}{h:Value}(l:PRep (ji false false) R h p0_):zq7 prog 109 [h] R (fun(x:(List Int)) vs R=> ∃ u0,vs=[u0]∧VRep (tSl false (qo .i64)) R u0 x) (fun σ B s=>z3j N p0_ σ B s):=by
 intro yv σ B I R1 O s0 Y r t Z a hy;refine z4a (args:=[yv,h]) func109 rfl rfl fun A=>?_;dsimp only at a;rw [z3j] at a;refine zg (ja rfl vg jr rfl (l.mono r) fun v1 h2=>?_);refine qg rfl lq rfl h2 fun v3 h4=>?_;refine zm (ql rfl underlying28 rfl (jd h4)) ?_;obtain⟨H,a⟩:=zf a
 refine z8a (T:=(qo .i64)) (m:=(↑p0_.rows.length:Int).toNat) (c:=(↑p0_.rows.length:Int).toNat) rfl underlying32 zo3 (zk rfl H.1) (zk rfl H.1) (Nat.le_refl _) (zfe H) (zfj H) fun K f6 y h8=>?_;refine zi K (z8 (zy (z5j (i:=0) rfl h8 fun L d M=>?_)))
 have P:VRep (tSl true (qo .i64)) L K (mk (↑p0_.rows.length:Int) (0:Int)):=(z5q M (y.trans List.length_replicate.symm))
 refine jg (γ:=Nat×σ×((List Int))×(List Frag)×Value) (rs [3,5,9,19]) (fun g=>[(3,g.2.2.2.2)]) (fun g=>[]++(g.2.2.2.1++A)) (fun g R=>tu N σ B p0_ g.1 g.2.1 g.2.2.1=some Y∧I g.2.1 R g.2.2.2.1∧VRep (tSl true (qo .i64)) R g.2.2.2.2 g.2.2.1∧True) (fun g=>g.1) (N,s0,(mk (↑p0_.rows.length:Int) (0:Int)),O,K) prm ⟨a,(t _ _ _ _ d Z),P,trivial⟩ ?_
 clear a;rintro⟨q,z,C,E,k⟩ ae af j ⟨a,F,u,_⟩;rcases q with _|q;exact qy a;replace a:tu N σ B p0_ (q+1) z C=some Y:=a;rw [tu] at a;refine zt (zg (zh yv (zh k ?_)));obtain⟨w,Q,a⟩:=zn a
 refine zew (vs:=[k]) (J:=[]) (Oc:=E) (A:=A) rfl rfl rfl rfl (hy C z w.1 w.2 _ _ [k] (d.trans j) ⟨k,rfl,(Sub.v (B:=(tSl false (qo .i64))) (uw Sub.refl (fun _=>rfl)) u)⟩ F Q) fun ag n b o=>?_;refine z8 (zo rfl a (fun a=>?_) (fun a=>?_))
 refine zz (zy (zg (qg rfl z06 rfl (l.mono (((r.trans d).trans j).trans b)) fun ah S=>?_)));refine zh k ?_;obtain⟨U,V,a⟩:=zn a;refine je rfl q0y rfl (zdb S (Sub.v (B:=(tSl false (qo .i64))) (uw Sub.refl (fun _=>rfl)) (u.mono b)) V) fun p ai e G=>?_
 refine zi p (z8 (zt (zg (zh k (zh p ?_)))));obtain⟨aj,W,a⟩:=zn a;refine je rfl q2v rfl (zc3 (Sub.v (B:=(tSl false (qo .i64))) (uw Sub.refl (fun _=>rfl)) (u.mono (b.trans e))) (Sub.v (B:=(tSl false (qo .i64))) (uw Sub.refl (fun _=>rfl)) G) W) fun ak al f X=>?_;obtain rfl:=X
 refine z8 (zo rfl a (fun a=>?_) (fun a=>?_));refine qj ?_;obtain rfl:=Option.some.inj a;refine z2l (D:=[]) (J:=[]) (O':=n) (rs:=[]) (vs:=[]) ((((d.trans j).trans b).trans e).trans f) (List.Perm.refl _) rfl trivial ?_;exact(t _ _ _ _ (e.trans f) o);refine zz (zu (zh p (zi p (z8 ?_))))
 exact⟨dkt,((b.trans e).trans f),kg,(q,w.2,U,n,p),Nat.lt_succ_self _,⟨rfl,trivial⟩,prm,a,(t _ _ _ _ (e.trans f) o),(G.mono f),trivial⟩;refine jh ?_;show zd1 _ _ _ _ _ .ret _ [] _ _;obtain rfl:=Option.some.inj a
 refine z2l (D:=[]) (J:=[]) (O':=n) (rs:=[]) (vs:=[]) ((d.trans j).trans b) (List.Perm.refl _) rfl trivial ?_;exact o
theorem q35:Enters prog 109:=enters_of func109 rfl (by kernel_rfl)
theorem zaz: ∀ w,(isAgg 32).run prog w= .ok false w:=fun w=>by kernel_rfl
theorem zdy{N:Nat}{R:RH}{m:Mach}{F:Value}(o:VRep (ji false false) R F m){r:(List Int)×Int×Int}(a:z2e N m=some r):CallP prog 93 #[F] R (fun v R'=> ∃ u0,v= .tuple #[u0,(vi r.2.1),(vi r.2.2)]∧VRep (tSl false (qo .i64)) R' u0 r.1):=by
 refine qd (args:=[F]) func93 rfl rfl fun A=>?_;rw [z2e] at a;refine zg (kv (T:=(ji false false)) rfl rfl rfl o fun v1 R3 k h5 h2=>?_);refine kw rfl q2q fun t=>?_;refine kw rfl za3 fun u=>?_;refine zi (vi 0) (z8 (zt (zg (zm (jo z06 rfl rfl h5 (o.mono k)) ?_))))
 obtain⟨p,X,a⟩:=zn a;refine je rfl zyj rfl (z3i (o.mono k) X) fun ar au d Y=>?_;obtain rfl:=Y;refine zi (vi p) (qz (zh (vi p) (zm (wy rfl rfl) (z8 (zo rfl a (fun a=>?_) (fun a=>?_))))))
 refine zg (zh (vi p) (ku (i:=1) (vs:=[vs0]) zsj rfl rfl rfl rfl rfl rfl (qf rfl ko) ?_));refine ku (i:=0) (vs:=[(vi 0)]) sz3 rfl rfl rfl rfl rfl rfl (qf rfl ko) ?_;refine zi (vi p) (z8 (qj ?_));obtain rfl:=Option.some.inj a
 refine zw (D:=[]) (J:=[box u [(vi 0)] 3,box t [vs0] 32]) (rs:=[.cell 2 32,.cell 3 3,.tmp 4]) (vs:=[vs0,(vi 0),(vi p)]) (k.trans d) rfl rfl ⟨⟨_,rfl,fun w G=>zbc (i:=1) G rfl rfl zaz  ⟩,⟨_,rfl,fun w G=>zbc (i:=0) G rfl rfl ag3  ⟩,rfl,trivial⟩ ?_;exact⟨rfl,⟨vs0,rfl,z3m⟩⟩
 refine zz (zg (ku (i:=0) (vs:=[(vi (-1))]) sz3 rfl rfl rfl rfl rfl rfl (qf rfl ko) ?_));refine z8 (zt (zg (zm (jo z06 rfl rfl (h5.mono d) (o.mono (k.trans d))) ?_)));obtain⟨av,Z,a⟩:=zn a;refine je rfl q1a rfl (zer (o.mono (k.trans d)) Z) fun aw ax M aa=>?_
 obtain⟨ay,rfl,ab⟩:=aa;refine z8 (zy ?_);obtain⟨g,ac,a⟩:=zn a
 refine zhc (Oc:=[box u [(vi (-1))] 3,box t [vs0] 32]) (Or:=A) _ (fun(s:(List Int)×Int) R O=> ∃ (n:Value),(∃ J,O.Perm (J++[box t [n] 32,box u [(vi s.2)] 3]))∧VRep (tSl false (qo .i64)) R n s.1∧True) (fun(s:(List Int)×Int) (c:Code) R O=>False) _ _ rfl q35 (zc6 (N:=N) ab) (List.Perm.refl _) (by decide) (by rintro _ _ _ ⟨_,rfl,_⟩;rfl) (by rintro s R2 R3 O2 j ⟨n,P,Q,_⟩;exact⟨n,P,Q.mono j,trivial⟩) (fun _ _ _ _ _ _ h=>h) (fun _ _ _ _ _ h=>h.elim) ⟨vs0,⟨[],(pk 1 rfl (pk 0 rfl (List.Perm.refl _)))⟩,z3m,trivial⟩ ac ?_ ?_ ?_
 rintro az H aA aB ai aC aj ak al S ⟨n,⟨_,P⟩,Q,_⟩ z aD;have x:=z;clear z;(try dsimp only at x);refine zdj (zhj P) ?_;obtain⟨q,rfl,I⟩:=S;refine zu (zi q (z8 ?_));refine⟨rfl,rfl,(RH.le.refl _),[box t [n] 32,box u [(vi H.2)] 3],List.Perm.refl _,fun aE=>?_⟩
 refine zy (zg (zh q (ku (i:=0) (vs:=[q]) zsj rfl rfl (z1c I) rfl rfl rfl (qf (z5i I) ko) ?_)));refine z8 (zu (zm (qm (i:=1) ag3 rfl rfl rfl) ?_));obtain⟨ad,x⟩:=zf x;refine zm (jl rfl rfl ad) (ku (i:=1) (vs:=[(vi (H.2+1))]) sz3 rfl rfl rfl rfl rfl rfl (qf rfl ko) ?_)
 refine z8 ?_;obtain⟨rfl,rfl⟩:=Prod.mk.inj (Option.some.inj x);exact⟨rfl,(RH.le.refl _),[box t [q] 32,box u [(vi (H.2+1))] 3],List.Perm.refl _,rfl,⟨q,⟨[],List.Perm.refl _⟩,I,trivial⟩⟩;rintro aF aG am U ⟨f,⟨_,P⟩,K,_⟩;refine⟨_,_,P,?_⟩
 refine zt (zqx [2,3] [(fun es=>phX f),(fun es=>phX (vi g.2)),(fun es=>(fun _ _=>True)),(fun es=>(fun _ _=>True)),(fun es=>phX (vi 0))] (fun fl es R O=>(fl=[false,false]∧O.Perm ([box t [f] 32,box u [(vi g.2)] 3]++A)∧True)∨(fl=[true,false]∧O.Perm ([box t [f] 32,box u [(vi g.2)] 3]++A)∧True)∨(fl=[true,true]∧O.Perm ([box t [f] 32,box u [(vi g.2)] 3]++A)∧True)) mixed (by kernel_rfl) ⟨(iy q8),(iy q8),(fun _ _ _ _ _ h=>h),(fun _ _ _ _ _ h=>h),(iy q8),trivial⟩ (by rintro fl es R R' O j (⟨rfl,b,_⟩|⟨rfl,b,_⟩|⟨rfl,b,_⟩);exact(.inl ⟨rfl,b,trivial⟩);exact(.inr (.inl ⟨rfl,b,trivial⟩));exact(.inr (.inr ⟨rfl,b,trivial⟩))) ⟨(fun _ _ _ _ _ h=>h),(fun _ _ _ _ _ h=>h),(fun _ _ _ _ _ h=>h),(fun _ _ _ _ _ h=>h),(fun _ _ _ _ _ h=>h),trivial⟩ (fun es=> .inl ⟨rfl,(List.Perm.refl _),trivial⟩) ⟨?_,?_,?_,?_,?_,trivial⟩ fun aH B=>?_)
 intro l aI fl O j y L C E;rcases E with⟨rfl,b,_⟩|⟨rfl,b,_⟩|⟨rfl,b,_⟩;exact zf1 b (qi (qm (i:=0) zaz (y 2 rfl) rfl rfl));exact zat C (by kernel_rfl);exact zat C (by kernel_rfl);intro l aJ fl O j y L C E;rcases E with⟨rfl,b,_⟩|⟨rfl,b,_⟩|⟨rfl,b,_⟩;exact zf1 b (qi (qm (i:=1) ag3 (y 3 rfl) rfl rfl))
 exact zf1 b (qi (qm (i:=1) ag3 (y 3 rfl) rfl rfl));exact zat C (by kernel_rfl);intro l aK fl O j y L C V E;obtain⟨W,d1,d2,_⟩:=L;rcases E with⟨rfl,b,_⟩|⟨rfl,b,_⟩|⟨rfl,b,_⟩;refine z3o b ?_
 refine Eff.mono (z3d (i:=0) (vs:=[f]) zsj (y 2 rfl) (W rfl) (z1c K) rfl rfl (Nat.le_of_ble_eq_true rfl) (qf (z5i K) ko)) ?_;rintro v R' O' hle' ⟨_,rfl,rfl⟩;exact⟨trivial,.inr (.inl ⟨rfl,(List.Perm.refl _),trivial⟩)⟩;cases V;cases V;intro l aL fl O j y L C V E;obtain⟨W,d1,d2,d3,d4,_⟩:=L
 rcases E with⟨rfl,b,_⟩|⟨rfl,b,_⟩|⟨rfl,b,_⟩;exact zat C (by kernel_rfl);refine z3o b ?_;refine Eff.mono (z3d (i:=1) (vs:=[(vi g.2)]) sz3 (y 3 rfl) (W rfl) rfl rfl rfl (Nat.le_of_ble_eq_true rfl) (qf rfl ko)) ?_;rintro v R' O' hle' ⟨_,rfl,rfl⟩;exact⟨trivial,.inr (.inr ⟨rfl,(List.Perm.refl _),trivial⟩)⟩;cases V
 intro l aO fl O j y L C E;obtain⟨W,d1,d2,d3,d4,_⟩:=L;exact qi (bv rfl);intro aP aQ aR ae af ag;rintro ap (⟨e,_⟩|⟨e,_⟩|⟨_,b,_⟩);cases e;cases e;refine⟨[],_,b,?_⟩;obtain rfl:=Eq.symm ae;obtain rfl:=Eq.symm af;obtain rfl:=Eq.symm ag;refine z8 (qj ?_);obtain rfl:=Option.some.inj a
 refine zw (D:=[]) (J:=[box t [f] 32,box u [(vi g.2)] 3]) (rs:=[.cell 2 32,.cell 3 3,.tmp 4]) (vs:=[f,(vi g.2),(vi 0)]) ((((k.trans d).trans M).trans U).trans B) rfl rfl ⟨⟨_,rfl,fun w G=>zbc (i:=0) G rfl rfl zaz  ⟩,⟨_,rfl,fun w G=>zbc (i:=1) G rfl rfl ag3  ⟩,rfl,trivial⟩ ?_
 exact⟨rfl,⟨f,rfl,(K.mono B)⟩⟩;exact fun _ _ _ _ _ h=>h.elim
theorem q4h:Enters prog 93:=enters_of func93 rfl (by kernel_rfl)
theorem zei{N:Nat}{R:RH}{x:(List Int)}{d:Value}(h:VRep (tSl false (qo .i64)) R d x){r:Int}(b:slices_Max_int N x=some r):CallP prog 94 #[d] R (fun v R'=>v=(vi r)):=by
 refine qd (args:=[d]) func94 rfl rfl fun A=>?_;rw [slices_Max_int] at b;refine zg (zi (vi 0) (z8 (zt (zg (zh d (zm (ql rfl underlying32 rfl (jd h)) (zm (j6 rfl rfl) (z8 (zo rfl b (fun b=>?_) (fun b=>?_))))))))));exact qy b;refine zz (zg (zh d ?_));obtain⟨q,b⟩:=zf b
 refine jv (i:=(0:Int).toNat) rfl z2p rfl (jd h) (zk rfl q.1) (qh q) fun C s=>?_;refine qg rfl ty3 rfl s fun E t=>?_;obtain rfl:=jy.1 t;refine zi (vi (ix x 0)) (z8 ?_);obtain⟨k,a,b⟩:=zn b
 refine j5 (γ:=Int) (rs [3,5,12,24]) (fun g=>[(3,(vi g))]) (fun g=>[]++A) (fun g R=>k=g∧True) ?_ ?_
 refine zg (zi (vi 1) (z8 (zy (jg (γ:=Nat×Int×Int) (rs [3,5,12,24]) (fun g=>[(3,(vi g.2.1)),(4,(vi g.2.2))]) (fun g=>[]++A) (fun g R=>ny N x g.1 g.2.1 g.2.2=some k∧True) (fun g=>g.1) (N,(ix x 0),1) prm ⟨a,trivial⟩ ?_))));clear a;rintro⟨j,e,c⟩ u w f ⟨a,_⟩;rcases j with _|j
 exact qy a;replace a:ny N x (j+1) e c=some k:=a;rw [ny] at a;refine zt (zg (zh (vi c) (zh d (zm (ql rfl underlying32 rfl (jd (h.mono f))) (zm (j6 rfl rfl) (z8 (zo rfl a (fun a=>?_) (fun a=>?_))))))))
 refine zz (zt (zy (zu (zh (vi e) (zh d (zh (vi c) ?_))))));obtain⟨l,a⟩:=zf a;refine jv (i:=c.toNat) rfl z2p rfl (jd (h.mono f)) (zk rfl l.1) (qh l) fun y m=>?_;refine qg rfl ty3 rfl m fun z n=>?_;obtain rfl:=jy.1 n
 refine zm (zme rfl underlying3 rfl rfl) (zi (vi (max e (ix x c))) (z8 (zu (zh (vi c) ?_))));obtain⟨o,a⟩:=zf a;refine zm (jl rfl rfl o) (zi (vi (c+1)) (z8 ?_));exact⟨dkt,(RH.le.refl _),kg,(j,max e (ix x c),c+1),Nat.lt_succ_self _,⟨rfl,rfl,trivial⟩,prm,a,trivial⟩;refine jh ?_
 exact⟨dkt,f,kg,e,⟨rfl,trivial⟩,prm,(Option.some.inj a).symm,trivial⟩;rintro k B F p ⟨rfl,_⟩;refine zg (zh (vi k) (zi (vi k) (z8 (qj ?_))));obtain rfl:=Option.some.inj b;refine zw (D:=[]) (J:=[]) (rs:=[.tmp 2]) (vs:=[(vi k)]) p rfl rfl ⟨rfl,trivial⟩ ?_;exact⟨rfl,rfl⟩
theorem q3v:Enters prog 94:=enters_of func94 rfl (by kernel_rfl)
theorem zbl{N:Nat}{R:RH}{p0_:Mach}{b:Value}(d:PRep (ji false false) R b p0_){r:Bool}(a:z1e N p0_=some r):CallP prog 92 #[b] R (fun v R'=>v=(.bool r)):=by
 refine qd (args:=[b]) func92 rfl rfl fun A=>?_;rw [z1e] at a;refine zg (zi (.bool false) (qz (qg rfl z06 rfl d fun s m=>?_)));obtain⟨e,n,a⟩:=zn a;refine je rfl q4h rfl (zdy m n) fun t u i o=>?_;obtain⟨h,rfl,f⟩:=o
 refine zh (.tuple #[h,(vi e.2.1),(vi e.2.2)]) (zm (jf rfl rfl) (zm (jf rfl rfl) (zm (jf rfl rfl) (zi h (zi (vi e.2.1) (zi (vi e.2.2) (qz (zh h ?_))))))));obtain⟨g,j,a⟩:=zn a;refine je rfl q3v rfl (zei f j) fun p q c k=>?_;obtain rfl:=k
 refine zh h (zm (ql rfl underlying32 rfl (jd (f.mono c))) ?_);obtain⟨l,a⟩:=zf a;refine zm (z9p rfl rfl l) (zm (ui rfl rfl) (zi (.bool (decide (g=((↑e.1.length:Int)-1)))) (z8 (qj ?_))));obtain rfl:=Option.some.inj a
 refine zw (D:=[]) (J:=[]) (rs:=[.tmp 1]) (vs:=[(.bool (decide (g=((↑e.1.length:Int)-1))))]) (i.trans c) rfl rfl ⟨rfl,trivial⟩ ?_;exact⟨rfl,rfl⟩
theorem q3u:Enters prog 92:=enters_of func92 rfl (by kernel_rfl)
theorem zc5{N:Nat}{R:RH}{m:Mach}{o:Value}(k:VRep (ji false false) R o m){r:Int}(a:z1q N m=some r):CallP prog 56 #[o] R (fun v R'=>v=(vi r)):=by
 refine qd (args:=[o]) func56 rfl rfl fun A=>?_;rw [z1q] at a;refine zg (kv (T:=(ji false false)) rfl rfl rfl k fun v1 R3 e P h2=>?_);refine zi (vi 0) (z8 (zt (zg (zm (jo z06 rfl rfl P (k.mono e)) ?_))));obtain⟨y,Q,a⟩:=zn a
 refine je rfl zyj rfl (z3i (k.mono e) Q) fun v8 S b U=>?_;obtain rfl:=U;refine zi (vi y) (qz (zh (vi y) (zm (wy rfl rfl) (z8 (zo rfl a (fun a=>?_) (fun a=>?_))))));refine zg (zh (vi y) (zi (vi y) (z8 (qj ?_))));obtain rfl:=Option.some.inj a
 refine zw (D:=[]) (J:=[]) (rs:=[.tmp 2]) (vs:=[(vi y)]) (e.trans b) rfl rfl ⟨rfl,trivial⟩ ?_;exact⟨rfl,rfl⟩;refine zz (zt (zg (zm (jo z06 rfl rfl (P.mono b) (k.mono (e.trans b))) ?_)));obtain⟨V,B,a⟩:=zn a;refine je rfl q3e rfl (zd8 (k.mono (e.trans b)) B) fun W X h C=>?_
 obtain⟨c,f,g,rfl,E,F,G⟩:=C;refine zh (vi 0) (z8 (zy (ztm 8 ?_)));refine z8c ?_;refine zg (zm (j6 rfl rfl) (z8 (zt ?_)));refine zec rfl (fun p=>?_) (fun p=>absurd p (by decide));clear p
 refine zz (zt (zy (zg (zm (zee (v:=(.agg #[(vi 9),(.func (.func 88) #[] #[c]),(vi 11),(.func (.func 90) #[] #[f]),(vi 12),(.func (.func 92) #[] #[g])])) (i:=(vi 0)) (u:=(.agg #[(vi 9),(.func (.func 88) #[] #[c])])) rfl rfl (fun w=>by kernel_rfl)) (kw rfl zvw fun l=>?_)))))
 refine ku (i:=0) (vs:=[(vi 9),(.func (.func 88) #[] #[c])]) zu8 rfl rfl rfl rfl rfl rfl (qf rfl (qf rfl ko)) ?_;refine qz (zm (qx zl8 rfl) (zm (qm (i:=0) q0d rfl rfl rfl) ?_));obtain⟨Y,H,a⟩:=zn a;refine zi2 (cs:=[c]) (vs:=[]) rfl q4n rfl rfl (zbo E H) fun Z aa d I=>?_
 obtain rfl:=I;refine zm (mq rfl) (z8 (zo rfl a (fun a=>?_) (fun a=>?_)));refine zg (zm (qx zlg rfl) (zm (qm (i:=0) q0i rfl rfl rfl) (zi (vi 9) (z8 (qj ?_)))));obtain rfl:=Option.some.inj a
 refine zw (D:=[]) (J:=[box l [(vi 9),(.func (.func 88) #[] #[c])] 121]) (rs:=[.tmp 2]) (vs:=[(vi 9)]) (((e.trans b).trans h).trans d) rfl rfl ⟨rfl,trivial⟩ ?_;exact⟨rfl,rfl⟩;refine zz (zu (zm (jl rfl rfl (by decide)) (zh (vi 1) (z8 (z8c ?_)))));refine zg (zm (j6 rfl rfl) (z8 (zt ?_)))
 refine zec rfl (fun q=>?_) (fun q=>absurd q (by decide));clear q
 refine zz (zt (zy (zg (zm (zee (v:=(.agg #[(vi 9),(.func (.func 88) #[] #[c]),(vi 11),(.func (.func 90) #[] #[f]),(vi 12),(.func (.func 92) #[] #[g])])) (i:=(vi 1)) (u:=(.agg #[(vi 11),(.func (.func 90) #[] #[f])])) rfl rfl (fun w=>by kernel_rfl)) (kw rfl zvw fun s=>?_)))))
 refine ku (i:=0) (vs:=[(vi 11),(.func (.func 90) #[] #[f])]) zu8 rfl rfl rfl rfl rfl rfl (qf rfl (qf rfl ko)) ?_;refine qz (zm (qx zl8 rfl) (zm (qm (i:=0) q0d rfl rfl rfl) ?_));obtain⟨ab,K,a⟩:=zn a
 refine zi2 (cs:=[f]) (vs:=[]) rfl q3s rfl rfl (zbn (F.mono d) K) fun ac ad j L=>?_;obtain rfl:=L;refine zm (mq rfl) (z8 (zo rfl a (fun a=>?_) (fun a=>?_)));refine zg (zm (qx zlg rfl) (zm (qm (i:=0) q0i rfl rfl rfl) (zi (vi 11) (z8 (qj ?_)))));obtain rfl:=Option.some.inj a
 refine zw (D:=[]) (J:=[box s [(vi 11),(.func (.func 90) #[] #[f])] 121,box l [(vi 9),(.func (.func 88) #[] #[c])] 121]) (rs:=[.tmp 2]) (vs:=[(vi 11)]) ((((e.trans b).trans h).trans d).trans j) rfl rfl ⟨rfl,trivial⟩ ?_;exact⟨rfl,rfl⟩
 refine zz (zu (zm (jl rfl rfl (by decide)) (zh (vi 2) (z8 (z8c ?_)))));refine zg (zm (j6 rfl rfl) (z8 (zt ?_)));refine zec rfl (fun t=>?_) (fun t=>absurd t (by decide));clear t
 refine zz (zt (zy (zg (zm (zee (v:=(.agg #[(vi 9),(.func (.func 88) #[] #[c]),(vi 11),(.func (.func 90) #[] #[f]),(vi 12),(.func (.func 92) #[] #[g])])) (i:=(vi 2)) (u:=(.agg #[(vi 12),(.func (.func 92) #[] #[g])])) rfl rfl (fun w=>by kernel_rfl)) (kw rfl zvw fun z=>?_)))))
 refine ku (i:=0) (vs:=[(vi 12),(.func (.func 92) #[] #[g])]) zu8 rfl rfl rfl rfl rfl rfl (qf rfl (qf rfl ko)) ?_;refine qz (zm (qx zl8 rfl) (zm (qm (i:=0) q0d rfl rfl rfl) ?_));obtain⟨ae,M,a⟩:=zn a
 refine zi2 (cs:=[g]) (vs:=[]) rfl q3u rfl rfl (zbl (G.mono (d.trans j)) M) fun af ag n O=>?_;obtain rfl:=O;refine zm (mq rfl) (z8 (zo rfl a (fun a=>?_) (fun a=>?_)));refine zg (zm (qx zlg rfl) (zm (qm (i:=0) q0i rfl rfl rfl) (zi (vi 12) (z8 (qj ?_)))))
 obtain rfl:=Option.some.inj a;refine zw (D:=[]) (J:=[box z [(vi 12),(.func (.func 92) #[] #[g])] 121,box s [(vi 11),(.func (.func 90) #[] #[f])] 121,box l [(vi 9),(.func (.func 88) #[] #[c])] 121]) (rs:=[.tmp 2]) (vs:=[(vi 12)]) (((((e.trans b).trans h).trans d).trans j).trans n) rfl rfl ⟨rfl,trivial⟩ ?_
 exact⟨rfl,rfl⟩;refine zz (zu (zm (jl rfl rfl (by decide)) (zh (vi 3) (z8 (z8c ?_)))));refine zg (zm (j6 rfl rfl) (z8 (zt (zec rfl (fun x=>absurd x (by decide)) (fun x=>?_)))));clear x;refine jh ?_;refine zg (zi (vi 0) (z8 (qj ?_)));obtain rfl:=Option.some.inj a
 refine zw (D:=[]) (J:=[box z [(vi 12),(.func (.func 92) #[] #[g])] 121,box s [(vi 11),(.func (.func 90) #[] #[f])] 121,box l [(vi 9),(.func (.func 88) #[] #[c])] 121]) (rs:=[.tmp 2]) (vs:=[(vi 0)]) (((((e.trans b).trans h).trans d).trans j).trans n) rfl rfl ⟨rfl,trivial⟩ ?_;exact⟨rfl,rfl⟩
theorem q3h:Enters prog 56:=enters_of func56 rfl (by kernel_rfl)
theorem z4n{N:Nat}{R:RH}{m:Mach}{d:Value}(e:VRep (ji false false) R d m){r:Int}(a:z0h N m=some r):CallP prog 31 #[d] R (fun v R'=>v=(vi r)):=by
 refine qd (args:=[d]) func31 rfl rfl fun A=>?_;rw [z0h] at a;refine zg (kv (T:=(ji false false)) rfl rfl rfl e fun q s c i j=>?_);refine zi (vi 0) (z8 (zt (zg (zm (jo z06 rfl rfl i (e.mono c)) ?_))));obtain⟨f,k,a⟩:=zn a
 refine je rfl q3h rfl (zc5 (e.mono c) k) fun t l b n=>?_;obtain rfl:=n;refine zi (vi f) (qz (zh (vi f) (zm (wy rfl rfl) (z8 (zo rfl a (fun a=>?_) (fun a=>?_))))));refine zg (zh (vi f) (zi (vi f) (z8 (qj ?_))));obtain rfl:=Option.some.inj a
 refine zw (D:=[]) (J:=[]) (rs:=[.tmp 2]) (vs:=[(vi f)]) (c.trans b) rfl rfl ⟨rfl,trivial⟩ ?_;exact⟨rfl,rfl⟩;refine zz (zt (zg (ja rfl vg jr rfl (j.mono b) fun o g=>?_)));refine qg rfl lq rfl g fun p h=>?_
 refine zm (ql rfl underlying28 rfl (jd h)) (zm (z00 rfl rfl) (z8 (zo rfl a (fun a=>?_) (fun a=>?_))));refine zg (zi (vi 3) (z8 (qj ?_)));obtain rfl:=Option.some.inj a;refine zw (D:=[]) (J:=[]) (rs:=[.tmp 2]) (vs:=[(vi 3)]) (c.trans b) rfl rfl ⟨rfl,trivial⟩ ?_;exact⟨rfl,rfl⟩
 refine zz (zg (zi (vi 0) (z8 (qj ?_))));obtain rfl:=Option.some.inj a;refine zw (D:=[]) (J:=[]) (rs:=[.tmp 2]) (vs:=[(vi 0)]) (c.trans b) rfl rfl ⟨rfl,trivial⟩ ?_;exact⟨rfl,rfl⟩
theorem zy5:Enters prog 31:=enters_of func31 rfl (by kernel_rfl)
theorem zw1: ∀ w,∃ z,(zeroValue 92).run prog w= .ok z w∧z.cells=((qp (mr 6 (List.replicate 6 (0:Int))))).toArray:=fun w=>⟨(.agg #[(.int .u16 0),(.int .u16 0),(.int .u16 0),(.int .u16 0),(.int .u16 0),(.int .u16 0)]),by kernel_rfl,by kernel_rfl⟩
theorem zog:ArrOk prog 92 6 1:=zaf (e:=71) underlying92 (fun w=>by kernel_rfl)
theorem zuw: ∀ w,(sizeOf 71).run prog w= .ok 1 w:=fun w=>by kernel_rfl
theorem zdh: ∀ w,(isAgg 92).run prog w= .ok true w:=fun w=>by kernel_rfl
theorem z8g: ∀ w,(sizeOf 92).run prog w= .ok 6 w:=fun w=>by kernel_rfl
theorem zii{N:Nat}{R:RH}{n:Int}{r:(Arr 6 Int)}(c:z4u N n=some r):CallP prog 58 #[(vi n)] R (fun v R'=>v=(j3 r)):=by
 refine qd (args:=[(vi n)]) func58 rfl rfl fun A=>?_;rw [z4u] at c;refine zg (kw rfl zw1 fun l=>?_);refine z8 ?_;obtain⟨d,a,c⟩:=zn c;refine j5 (γ:=((Arr 6 Int))) (rs [3,18]) (fun g=>[]) (fun g=>[box l (qp g) 92]++A) (fun g R=>d=g∧True) ?_ ?_
 refine zg (zh (vi n) (zh (vi 0) (z8 (zy (jg (γ:=Nat×Int×((Arr 6 Int))) (rs [3,4,5,18]) (fun g=>[(5,(vi g.2.1))]) (fun g=>[box l (qp g.2.2) 92]++A) (fun g R=>bu N n g.1 g.2.1 g.2.2=some d∧True) (fun g=>g.1) (N,0,(mr 6 (List.replicate 6 (0:Int)))) prm ⟨a,trivial⟩ ?_)))));clear a
 rintro⟨k,b,f⟩ y E h ⟨a,_⟩;rcases k with _|k;exact qy a;replace a:bu N n (k+1) b f=some d:=a;rw [bu] at a;refine zg (zm (j6 rfl rfl) (z8 (zt (zo rfl a (fun a=>?_) (fun a=>?_)))))
 refine zz (zt (zy (zg (zh (vi b) (zi (vi b) (z8 (zu (zh (vi b) (zh (vi b) (zm (zcl underlying3 underlying71 rfl) ?_))))))))));obtain⟨m,a⟩:=zf a;refine zm (z5r rfl rfl m) (zh (vi n) ?_);obtain⟨p,a⟩:=zf a
 refine zm (z5r rfl rfl p) (zm (zgo rfl rfl) ?_);obtain⟨s,a⟩:=zf a;refine zm (zdt rfl rfl s) ?_;obtain⟨e,a⟩:=zf a
 refine zm (l9 (i:=b.toNat) zog rfl (zk rfl e.1) (Nat.lt_of_lt_of_eq (qh e) f.2)) (z5f (sz:=1) (cl:=(fun x:Int=>[Value.int .u16 x])) (z:=ior (su .u16 (IntKind.u16.wrap b) (8:Int)) (IntKind.u16.wrap ((su .u16 (1:Int) n)-1))) (vs:=[(.int .u16 (ior (su .u16 (IntKind.u16.wrap b) (8:Int)) (IntKind.u16.wrap ((su .u16 (1:Int) n)-1))))]) (q:=b) (i:=b.toNat) (o:=0) (j:=0) (X:=f) cells_int.len zuw rfl rfl (by omega) rfl (Nat.lt_of_lt_of_eq (qh e) f.2) rfl rfl rfl (qf rfl ko) rfl rfl ?_)
 refine z8 (zu ?_);obtain⟨t,a⟩:=zf a;refine zm (jl rfl rfl t) (zh (vi (b+1)) (z8 ?_));exact⟨dkt,(RH.le.refl _),kg,(k,b+1,(ah f b (ior (su .u16 (IntKind.u16.wrap b) (8:Int)) (IntKind.u16.wrap ((su .u16 (1:Int) n)-1))))),Nat.lt_succ_self _,⟨rfl,trivial⟩,prm,a,trivial⟩;refine jh ?_
 exact⟨dkt,h,kg,f,trivial,prm,(Option.some.inj a).symm,trivial⟩;rintro d B F u ⟨rfl,_⟩;refine zg (zm (dw (j:=0) (v:=(j3 d)) zdh z8g rfl rfl (co_A6tIntu16.len _) rfl) (ic (j:=0) (cs:=(qp d)) (cs':=(qp d)) z8g rfl rfl (co_A6tIntu16.len _) (co_A6tIntu16.len _) rfl rfl (z0i (z10 _)) ?_))
 refine z8 (qj ?_);obtain rfl:=Option.some.inj c;refine zw (D:=[]) (J:=[box l (qp d) 92]) (rs:=[.cell 2 92]) (vs:=[(j3 d)]) u rfl rfl ⟨⟨_,rfl,fun w C=>z5l (i:=0) C rfl zdh z8g (co_A6tIntu16.len _)⟩,trivial⟩ ?_;exact⟨rfl,rfl⟩
end GV
end Go.Proofs.Ytnnobdkjgafdmaa
