import Derived.Test.YtnnobdkjgafdmaaShWa
import Derived.Test.YtnnobdkjgafdmaaRows
set_option linter.unusedVariables false
set_option linter.unusedSimpArgs false
set_option linter.unusedSectionVars false
namespace Go.Proofs.Ytnnobdkjgafdmaa
namespace GV
open _root_.Go.Proofs.Try
open Go.IntWalk
set_option maxRecDepth 100000
set_option maxHeartbeats 20000000
theorem q4i:Enters prog 87:=enters_of func87 rfl (by kernel_rfl)
theorem zdz{N:Nat}{R:RH}{x:Edge}{p0_:Mach}{a:Value}(c:PRep (jv false false) R a p0_){r:Bool}(b:z6f N x p0_=some r):CallP prog 86 #[(ik x),a] R (fun v R'=>v=(.bool r)):=by
 refine qd (args:=[(ik x),a]) func86 rfl rfl fun A=>?_;rw [z6f] at b;refine zl (zd6 (T:=kEdge) rfl rfl (tq.2 rfl) fun n o d i=>?_);refine zi (.bool false) (qy (qh rfl z0w rfl (c.mono d) fun p j=>?_));refine qh rfl zdd rfl i fun q k=>?_;obtain rfl:=tq.1 k
 obtain⟨h,f,b⟩:=zq b;refine jf rfl q4i rfl (zh7 j f) fun l m e g=>?_;obtain rfl:=g;refine zm (rf rfl) (zi (.bool (!h)) (z8 (qm ?_)));obtain rfl:=Option.some.inj b;refine qa (D:=[]) (J:=[]) (rs:=[.tmp 3]) (vs:=[(.bool (!h))]) (d.trans e) rfl rfl ⟨rfl,trivial⟩ ?_;exact⟨rfl,rfl⟩
theorem q4c:Enters prog 86:=enters_of func86 rfl (by kernel_rfl)
theorem z4b{N:Nat}{R:RH}{m:Mach}{q:Value}(F:VRep (jv false false) R q m){r:Int}(b:iw N m=some r):CallP prog 75 #[q] R (fun v R'=>v=(vi r)):=by
 refine qd (args:=[q]) func75 rfl rfl fun A=>?_;rw [iw] at b;refine zl (kz (T:=(jv false false)) rfl rfl rfl F fun E R3 k h5 l=>?_);refine zi (vi 0) (z8 (zt (zl (zne rfl (w9 z1o z2v rfl l) fun v6 h7=>?_))))
 refine jq rfl (bi (ko ty3 rfl h7)) (jq rfl (z2l rfl rfl) (jq (v:=(.bool (decide (16<m.inputs)))) rfl (ze rfl) (qp rfl rfl rfl rfl (fun c=>w9 zba z7c rfl l) fun ak G=>?_)));refine qp rfl rfl rfl rfl (fun c=>qg (bi (ko ty3 rfl (G.1 (zh rfl c))))) fun al H=>?_
 refine qp rfl rfl rfl rfl (fun c=>qg (z2l (H.1 (zh rfl c)) rfl)) fun am I=>?_;refine jq rfl (p9 rfl rfl (fun n=>(I.1 (zh rfl n)))) (jq (v:=(.bool ((decide (16<m.inputs))||(decide (16<m.outputs))))) rfl (ze rfl) (qp rfl rfl rfl rfl (fun c=>w9 yu ug rfl l) fun an K=>?_))
 refine qp rfl rfl rfl rfl (fun c=>ko z1n rfl (K.1 (zh rfl c))) fun ao L=>?_;refine qp rfl rfl rfl rfl (fun c=>qg (qo rfl underlying28 rfl (j5 (L.1 (zh rfl c))))) fun ap M=>?_;refine qp rfl rfl rfl rfl (fun c=>qg (z2l (M.1 (zh rfl c)) rfl)) fun aq O=>?_
 refine jq rfl (p9 rfl rfl (fun n=>(O.1 (zh rfl n)))) (z8 (zu rfl b (fun b=>?_) (fun b=>?_)));refine zl (zi (vi 3) (z8 (qm ?_)));obtain rfl:=Option.some.inj b;refine qa (D:=[]) (J:=[]) (rs:=[.tmp 2]) (vs:=[(vi 3)]) k rfl rfl ⟨rfl,trivial⟩ ?_;exact⟨rfl,rfl⟩
 refine qb (zt (zl (zne rfl (w9 z1o z2v rfl l) fun ar P=>?_)));refine jq rfl (bi (ko ty3 rfl P)) (jq rfl (j4 rfl rfl) (jq (v:=(.bool (decide (m.inputs<1)))) rfl (ze rfl) (qp rfl rfl rfl rfl (fun c=>w9 zba z7c rfl l) fun au Q=>?_)))
 refine qp rfl rfl rfl rfl (fun c=>qg (bi (ko ty3 rfl (Q.1 (zh rfl c))))) fun av S=>?_;refine qp rfl rfl rfl rfl (fun c=>qg (j4 (S.1 (zh rfl c)) rfl)) fun aw U=>?_
 refine jq rfl (p9 rfl rfl (fun n=>(U.1 (zh rfl n)))) (jq (v:=(.bool ((decide (m.inputs<1))||(decide (m.outputs<1))))) rfl (ze rfl) (qp rfl rfl rfl rfl (fun c=>w9 yu ug rfl l) fun ax V=>?_));refine qp rfl rfl rfl rfl (fun c=>ko z1n rfl (V.1 (zh rfl c))) fun ay W=>?_
 refine qp rfl rfl rfl rfl (fun c=>qg (qo rfl underlying28 rfl (j5 (W.1 (zh rfl c))))) fun az X=>?_;refine qp rfl rfl rfl rfl (fun c=>qg (j4 (X.1 (zh rfl c)) rfl)) fun aA Y=>?_;refine jq rfl (p9 rfl rfl (fun n=>(Y.1 (zh rfl n)))) (z8 (zu rfl b (fun b=>?_) (fun b=>?_)))
 refine zl (zi (vi 1) (z8 (qm ?_)));obtain rfl:=Option.some.inj b;refine qa (D:=[]) (J:=[]) (rs:=[.tmp 2]) (vs:=[(vi 1)]) k rfl rfl ⟨rfl,trivial⟩ ?_;exact⟨rfl,rfl⟩;refine qb ?_;obtain⟨s,a,b⟩:=zq b;refine qx (γ:=Unit) (rs [2,3,4,5,33,51]) (fun g=>[]) (fun g=>[]++A) (fun g R=>s=Ex.go g∧True) ?_ ?_
 refine zl (j6 rfl yu ug rfl l fun aB Z=>?_);refine qh rfl z1n rfl Z fun aC t=>?_
 refine zm (qo rfl underlying28 rfl (j5 t)) (zg (vi 0) (z8 (zw (je (γ:=Nat×Int) (rs [2,3,4,5,36,51]) (fun g=>[(36,(vi g.2))]) (fun g=>[]++A) (fun g R=>mf N m g.1 g.2=some s∧True) (fun g=>g.1) (N,0) prm ⟨a,trivial⟩ ?_))));clear a;rintro⟨o,e⟩ ah aD d ⟨a,_⟩;rcases o with _|o
 exact qw a;replace a:mf N m (o+1) e=some s:=a;rw [mf] at a;refine zl (zm (j4 rfl rfl) (z8 (zt (zu rfl a (fun a=>?_) (fun a=>?_)))));refine qb (zt (zw (zl ?_)));obtain⟨u,a⟩:=zb a
 refine kv (i:=e.toNat) rfl za4 rfl (j5 (t.mono d)) (zf rfl u.1) (zx u) fun aE aa=>?_;refine qh rfl z9h rfl aa fun p w=>?_;refine zi p (qy (jq (v:=p) rfl (ze rfl) (jq rfl (qo rfl underlying58 rfl (j5 w)) (zne rfl (w9 z1o z2v rfl (l.mono d)) fun aF ab=>?_))))
 refine jq rfl (bi (ko ty3 rfl ab)) (jq rfl (ww rfl rfl) (jq (v:=(.bool (decide ((↑(ix m.rows e).length:Int)≠m.inputs)))) rfl (ze rfl) (qp rfl rfl rfl rfl (fun c=>qg (v:=p) (ze rfl)) fun aG ac=>?_)))
 refine qp rfl rfl rfl rfl (fun c=>qg (v:=(.func (.func 86) #[] #[E])) (l9 (fs:=[]) (cs:=[E]) rfl rfl)) fun aH ad=>?_;obtain⟨ae,af,a⟩:=zq a
 refine z6i rfl rfl rfl rfl (fun c=>bu (vs:=[p,(.func (.func 86) #[] #[E])]) q5e (zai (ac.1 (zh rfl c)) (zai (ad.1 (zh rfl c)) rfl)) ((by have ag:=(z0x af (zh rfl c));exact z6p w (zsc (cs:=[E]) q4c fun R1 hq z0 u0 y k0 hy=>by obtain rfl:=tq.1 k0;exact CallP.mono (zdz ((l.mono d).mono hq) hy) fun v R2 _ hv=>sw.2 hv) ag)) (fun _ _ h=>h)) fun x z f j=>?_
 replace j:phG (true&&((decide ((↑(ix m.rows e).length:Int)≠m.inputs))==false)) (phX (.bool (ae.getD default))) x z:=j;refine jq rfl (p9 rfl rfl (fun n=>(j.1 (zh rfl n)))) (z8 (zu rfl a (fun a=>?_) (fun a=>?_)));refine zl (zi (vi 1) (z8 (qm ?_)));replace b:=z00 a b;obtain rfl:=Option.some.inj b
 refine qa (D:=[]) (J:=[]) (rs:=[.tmp 2]) (vs:=[(vi 1)]) ((k.trans d).trans f) rfl rfl ⟨rfl,trivial⟩ ?_;exact⟨rfl,rfl⟩;refine qb (zn ?_);obtain⟨B,a⟩:=zb a;refine zm (ji rfl rfl B) (zg (vi (e+1)) (z8 ?_));exact⟨dkt,f,jm,(o,e+1),Nat.lt_succ_self _,⟨rfl,trivial⟩,prm,a,trivial⟩
 refine jg ?_;exact⟨dkt,d,jm,(),trivial,prm,(Option.some.inj a).symm,trivial⟩;rintro aM ai aN C ⟨rfl,_⟩;replace b:=z0v b;refine zl (zi (vi 0) (z8 (qm ?_)));obtain rfl:=Option.some.inj b;refine qa (D:=[]) (J:=[]) (rs:=[.tmp 2]) (vs:=[(vi 0)]) (k.trans C) rfl rfl ⟨rfl,trivial⟩ ?_;exact⟨rfl,rfl⟩
theorem zyi:Enters prog 75:=enters_of func75 rfl (by kernel_rfl)
theorem q1p: ∀ w,∃ z,(zeroValue 122).run prog w= .ok z w∧z.cells=([.int .i64 0,.nilFunc,.int .i64 0,.nilFunc,.int .i64 0,.nilFunc]:List Value).toArray:=fun w=>⟨(.agg #[(vi 0),.nilFunc,(vi 0),.nilFunc,(vi 0),.nilFunc]),by kernel_rfl,rfl⟩
theorem zzk: ∀ w,(sizeOf 122).run prog w= .ok 6 w:=fun w=>by kernel_rfl
theorem q2j: ∀ w,(isAgg 122).run prog w= .ok true w:=fun w=>by kernel_rfl
theorem zfh{N:Nat}{R:RH}{m:Mach}{b:Value}(d:VRep (jv false false) R b m){r:Mach×Mach×Mach}(c:z7o N m=some r):CallP prog 76 #[b] R (fun v R'=> ∃ u0 g h,v= .agg #[(vi 9),.func (.func 88) #[] #[u0],(vi 11),.func (.func 90) #[] #[g],(vi 12),.func (.func 92) #[] #[h]]∧PRep (jv false false) R' u0 r.1∧PRep (jv false false) R' g r.2.1∧PRep (jv false false) R' h r.2.2):=by
 refine qd (args:=[b]) func76 rfl rfl fun A=>?_;rw [z7o] at c;refine zl (kz (T:=(jv false false)) rfl rfl rfl d fun a l e n f=>?_);refine kw rfl q1p fun j=>?_
 refine qy (zm (l9 (fs:=[]) (cs:=[a]) rfl rfl) (zm (xn (ps:=[(0,(vi 9)),(1,(.func (.func 88) #[] #[a]))]) (v:=(.agg #[(vi 9),(.func (.func 88) #[] #[a])])) rfl (fun w=>by kernel_rfl)) (zm (l9 (fs:=[]) (cs:=[a]) rfl rfl) (zm (xn (ps:=[(0,(vi 11)),(1,(.func (.func 90) #[] #[a]))]) (v:=(.agg #[(vi 11),(.func (.func 90) #[] #[a])])) rfl (fun w=>by kernel_rfl)) (zm (l9 (fs:=[]) (cs:=[a]) rfl rfl) (zm (xn (ps:=[(0,(vi 12)),(1,(.func (.func 92) #[] #[a]))]) (v:=(.agg #[(vi 12),(.func (.func 92) #[] #[a])])) rfl (fun w=>by kernel_rfl)) (zm (xn (ps:=[(0,(.agg #[(vi 9),(.func (.func 88) #[] #[a])])),(1,(.agg #[(vi 11),(.func (.func 90) #[] #[a])])),(2,(.agg #[(vi 12),(.func (.func 92) #[] #[a])]))]) (v:=(.agg #[(vi 9),(.func (.func 88) #[] #[a]),(vi 11),(.func (.func 90) #[] #[a]),(vi 12),(.func (.func 92) #[] #[a])])) rfl (fun w=>by kernel_rfl)) (jy (i:=0) (vs:=[(vi 9),(.func (.func 88) #[] #[a]),(vi 11),(.func (.func 90) #[] #[a]),(vi 12),(.func (.func 92) #[] #[a])]) zzk rfl rfl rfl rfl rfl rfl (qc rfl (qc rfl (qc rfl (qc rfl (qc rfl (qc rfl kg)))))) ?_))))))))
 refine z8 (qm ?_);obtain rfl:=Option.some.inj c
 refine qa (D:=[]) (J:=[box j [(vi 9),(.func (.func 88) #[] #[a]),(vi 11),(.func (.func 90) #[] #[a]),(vi 12),(.func (.func 92) #[] #[a])] 122]) (rs:=[.cell 2 122]) (vs:=[(.agg #[(vi 9),(.func (.func 88) #[] #[a]),(vi 11),(.func (.func 90) #[] #[a]),(vi 12),(.func (.func 92) #[] #[a])])]) e rfl rfl ⟨⟨_,rfl,fun w k=>z04 (i:=0) k rfl rfl q2j zzk rfl rfl⟩,trivial⟩ ?_
 exact⟨rfl,⟨a,a,a,rfl,f,f,f⟩⟩
theorem q5u:Enters prog 76:=enters_of func76 rfl (by kernel_rfl)
theorem zwt: ∀ w,∃ z,(zeroValue 121).run prog w= .ok z w∧z.cells=([.int .i64 0,.nilFunc]:List Value).toArray:=fun w=>⟨(.agg #[(vi 0),.nilFunc]),by kernel_rfl,rfl⟩
theorem zwm: ∀ w,(sizeOf 121).run prog w= .ok 2 w:=fun w=>by kernel_rfl
theorem zm9:FieldOk prog 121 1 1:=by
 obtain⟨i,hi,a⟩: ∃ i,prog.info? 41=some i∧i.size=1:=uf (by kernel_rfl);exact dm underlying121 rfl rfl hi (by rw [a];rfl)
theorem q13: ∀ w,(isAgg 41).run prog w= .ok false w:=fun w=>by kernel_rfl
theorem q3j: ∀ w,∃ z,(zeroValue 146).run prog w= .ok z w∧z.cells=([.slice none 0 0]:List Value).toArray:=fun w=>⟨vs0,by kernel_rfl,rfl⟩
theorem zg1{N:Nat}{R:RH}{m:Mach}{a:Value}(d:VRep (jv false false) R a m){r:Mach}(b:z5v N m=some r):CallP prog 106 #[a] R (fun v R'=> ∃ u0,v= .func (.func 112) #[] #[u0]∧PRep (jv false false) R' u0 r):=by
 refine qd (args:=[a]) func106 rfl rfl fun A=>?_;rw [z5v] at b;refine zl (kz (T:=(jv false false)) rfl rfl rfl d fun c g e h f=>?_);refine zi .nilFunc (qy (zm (l9 (fs:=[]) (cs:=[c]) rfl rfl) (zi (.func (.func 112) #[] #[c]) (z8 (qm ?_)))));obtain rfl:=Option.some.inj b
 refine qa (D:=[]) (J:=[]) (rs:=[.tmp 2]) (vs:=[(.func (.func 112) #[] #[c])]) e rfl rfl ⟨rfl,trivial⟩ ?_;exact⟨rfl,⟨c,rfl,f⟩⟩
theorem q2p:Enters prog 106:=enters_of func106 rfl (by kernel_rfl)
theorem zee{N:Nat}{R:RH}{p0_:Mach}{e:Value}(r:PRep (jv false false) R e p0_):zs9 prog 112 [e] R (fun(x:((Int×Int)×Edge)) vs R=>vs=[(zkj x.1),(ik x.2)]) (fun σ B s=>z1u N p0_ σ B s):=by
 intro yv σ B I R1 O s0 Y C ab h0 c hy;refine z5d (args:=[yv,e]) func112 rfl rfl fun A=>?_;dsimp only at c;rw [z1u] at c;refine zl (j6 rfl yu ug rfl (r.mono C) fun v1 h2=>?_);refine qh rfl z1n rfl h2 fun v3 Z=>?_
 refine zm (qo rfl underlying28 rfl (j5 Z)) (zg (vi 0) (z8 (zw (je (γ:=Nat×σ×Int×(List Frag)) (rs [3,7,10,31]) (fun g=>[(10,(vi g.2.2.1))]) (fun g=>[]++(g.2.2.2++A)) (fun g R=>nu N σ B p0_ g.1 g.2.1 g.2.2.1=some Y∧I g.2.1 R g.2.2.2∧True) (fun g=>g.1) (N,s0,0,O) prm ⟨c,h0,trivial⟩ ?_))));clear c
 rintro⟨P,x6,d,k⟩ af R8 h ⟨c,l,_⟩;rcases P with _|P;exact qw c;replace c:nu N σ B p0_ (P+1) x6 d=some Y:=c;rw [nu] at c;refine zl (zm (j4 rfl rfl) (z8 (zt (zu rfl c (fun c=>?_) (fun c=>?_)))));refine qb ?_;obtain⟨t,b,c⟩:=zq c
 refine qx (γ:=σ×(List Frag)) (rs [3,7,12,30]) (fun g=>[]) (fun g=>[]++(g.2++A)) (fun g R=>t=Ex.go g.1∧I g.1 R g.2∧True) ?_ ?_;refine zw (zl (zg (vi d) ?_));obtain⟨E,b⟩:=zb b;refine kv (i:=d.toNat) rfl za4 rfl (j5 (Z.mono h)) (zf rfl E.1) (zx E) fun ag Q=>?_
 refine qh rfl z9h rfl Q fun F G=>?_
 refine zi (vi d) (zi F (qy (zg F (zm (qo rfl underlying58 rfl (j5 G)) (zg (vi 0) (z8 (zw (je (γ:=Nat×σ×Int×(List Frag)) (rs [5,7,17,30]) (fun g=>[(17,(vi g.2.2.1))]) (fun g=>[]++(g.2.2.2++A)) (fun g R=>p8 N σ B p0_ d g.1 g.2.1 g.2.2.1=some t∧I g.2.1 R g.2.2.2∧True) (fun g=>g.1) (N,x6,0,k) prm ⟨b,l,trivial⟩ ?_))))))))
 clear b;rintro⟨j,u,a,m⟩ ah ai f ⟨b,n,_⟩;rcases j with _|j;exact qw b;replace b:p8 N σ B p0_ d (j+1) u a=some t:=b;rw [p8] at b;refine zl (zm (j4 rfl rfl) (z8 (zt (zu rfl b (fun b=>?_) (fun b=>?_)))))
 refine qb (zt (zw (zl (zg (vi a) ?_))));obtain⟨H,b⟩:=zb b;refine kv (i:=a.toNat) rfl za2 rfl (j5 (G.mono f)) (zf rfl H.1) (zx H) fun aj S=>?_;refine qh rfl zdd rfl S fun ak T=>?_;obtain rfl:=tq.1 T;refine kw rfl zd9 fun y=>?_
 refine zi (vi a) (jy (i:=0) (vs:=[(vi ((ix (ix p0_.rows d) a).to)),(vi ((ix (ix p0_.rows d) a).out))]) z9p rfl rfl rfl rfl rfl rfl (qc rfl (qc rfl kg)) ?_)
 refine qy (zg yv (zg (vi d) (zg (vi a) (zm (xn (ps:=[(0,(vi d)),(1,(vi a))]) (v:=(.agg #[(vi d),(vi a)])) rfl (fun w=>by kernel_rfl)) (zm (vz (i:=0) zua z9p rfl rfl rfl rfl) ?_)))));obtain⟨z,U,b⟩:=zq b
 refine zgc (vs:=[(.agg #[(vi d),(vi a)]),(.agg #[(vi ((ix (ix p0_.rows d) a).to)),(vi ((ix (ix p0_.rows d) a).out))])]) (J:=[box y [(vi ((ix (ix p0_.rows d) a).to)),(vi ((ix (ix p0_.rows d) a).out))] 57]) (Oc:=m) (A:=A) rfl rfl rfl rfl (hy (((d,a):(Int×Int)),(⟨(ix (ix p0_.rows d) a).to,(ix (ix p0_.rows d) a).out⟩:Edge)) u z.1 z.2 _ _ [(.agg #[(vi d),(vi a)]),(.agg #[(vi ((ix (ix p0_.rows d) a).to)),(vi ((ix (ix p0_.rows d) a).out))])] (h.trans f) rfl n U) fun al o p q=>?_
 refine zm (rf rfl) (z8 (zu rfl b (fun b=>?_) (fun b=>?_)));refine qm ?_;replace c:=z00 b c;obtain rfl:=Option.some.inj c;refine z3e (D:=[]) (J:=[box y [(vi ((ix (ix p0_.rows d) a).to)),(vi ((ix (ix p0_.rows d) a).out))] 57]) (O':=o) (rs:=[]) (vs:=[]) ((h.trans f).trans p) (List.Perm.refl _) rfl trivial ?_
 exact q;refine qb (zn ?_);obtain⟨V,b⟩:=zb b;refine zm (ji rfl rfl V) (zg (vi (a+1)) (z8 ?_));exact⟨dkt,p,jm,(j,z.2,a+1,o),Nat.lt_succ_self _,⟨rfl,trivial⟩,⟨[box y [(vi ((ix (ix p0_.rows d) a).to)),(vi ((ix (ix p0_.rows d) a).out))] 57],(List.Perm.refl _)⟩,b,q,trivial⟩
 refine jg ?_;exact⟨dkt,f,jm,(u,m),trivial,prm,(Option.some.inj b).symm,n,trivial⟩;rintro⟨W,K⟩ am an L ⟨rfl,M,_⟩;replace c:=z0v c;refine zn ?_;obtain⟨X,c⟩:=zb c;refine zm (ji rfl rfl X) (zg (vi (d+1)) (z8 ?_))
 exact⟨dkt,L,jm,(P,W,d+1,K),Nat.lt_succ_self _,⟨rfl,trivial⟩,prm,c,M,trivial⟩;refine jg ?_;show zer _ _ _ _ _ .ret _ [] _ _;obtain rfl:=Option.some.inj c;refine z3e (D:=[]) (J:=[]) (O':=k) (rs:=[]) (vs:=[]) h (List.Perm.refl _) rfl trivial ?_;exact l
theorem q3g:Enters prog 112:=enters_of func112 rfl (by kernel_rfl)
theorem q35: ∀ w,∃ z,(zeroValue 158).run prog w= .ok z w∧z.cells=([.int .i64 0,.int .i64 0]:List Value).toArray:=fun w=>⟨(.agg #[(vi 0),(vi 0)]),by kernel_rfl,rfl⟩
theorem zw7: ∀ w,(sizeOf 158).run prog w= .ok 2 w:=fun w=>by kernel_rfl
theorem zzh: ∀ w,(isAgg 146).run prog w= .ok false w:=fun w=>by kernel_rfl
theorem q3s: ∀ w,(isAgg 158).run prog w= .ok true w:=fun w=>by kernel_rfl
theorem zzo:ZeroOk prog 158 kA2tInti64 (((0:Int),(0:Int)):(Int×Int)) 16:=by
 obtain⟨i,zv,hi,a,c,d,f⟩:=z2c (P:=prog) (e:=158) (zv:=(.agg #[(vi 0),(vi 0)])) (k:=2) (b:=16) (by kernel_rfl);exact⟨i,zv,hi,a,c,d,fun R=>by subst f;exact⟨_,_,rfl,rfl,rfl⟩⟩
theorem q20: ∀ w,(sizeOf 146).run prog w= .ok 1 w:=fun w=>by kernel_rfl
theorem q27:TyOk prog 158 kA2tInti64:=by
 obtain⟨i,hi,a⟩: ∃ i,prog.info? 158=some i∧i.size=2:=uf (by kernel_rfl);exact z01 underlying158 hi rfl a
theorem q1o:SlOk prog 146 158 kA2tInti64:=⟨underlying146,q27⟩
theorem zbz{N:Nat}{R:RH}{s:(List (Int×Int))}{a:Value}(b:VRep (tSl false kA2tInti64) R a s){r:(List (Int×Int))}(c:z2i N s=some r):CallP prog 107 #[a] R (fun v R'=>VRep (tSl true kA2tInti64) R' v r):=by
 refine qd (args:=[a]) func107 rfl rfl fun A=>?_;rw [z2i] at c;refine zl (zi vs0 (qy (zg a (zg a (zm (qo rfl underlying146 rfl (j5 b)) (zg a (zm (qo rfl underlying146 rfl (j5 b)) ?_)))))));obtain⟨d,c⟩:=zb c
 refine zab (v:=a) (lo:=(0:Int).toNat) (hi:=(↑s.length:Int).toNat) (mx:=(↑s.length:Int).toNat) rfl q1o rfl (j5 b) (.inl ⟨rfl,rfl⟩) (.inr ⟨_,congrArg some (zf rfl (zgw d))⟩) (.inr ⟨_,congrArg some (zf rfl (zgw d))⟩) (zjy d) (z95 d) (Nat.le_refl _) (Nat.le_trans (z95 d) (zql (j5 b))) (X':=(cut s 0 (↑s.length:Int))) rfl fun f g e=>?_
 have h:VRep (tSl true kA2tInti64) R f (cut s 0 (↑s.length:Int)):=z3i g (e.trans (zn3 d).symm);refine zi f (z8 (qm ?_));obtain rfl:=Option.some.inj c;refine qa (D:=[]) (J:=[]) (rs:=[.tmp 2]) (vs:=[f]) (RH.le.refl _) rfl rfl ⟨rfl,trivial⟩ ?_;exact⟨rfl,h⟩
theorem q3p:Enters prog 107:=enters_of func107 rfl (by kernel_rfl)
theorem zc5{N:Nat}{R:RH}{m:Mach}{t:Value}(u:VRep (jv false false) R t m){r:(List (Int×Int))}(d:z0e N m=some r):CallP prog 100 #[t] R (fun v R'=>VRep (tSl true kA2tInti64) R' v r):=by
 refine qd (args:=[t]) func100 rfl rfl fun A=>?_;rw [z0e] at d;refine zl (kz (T:=(jv false false)) rfl rfl rfl u fun v1 R3 w h5 h2=>?_);refine zi vs0 (qy (kw rfl q3j fun E=>?_));refine z8 (zt (zl (zm (ky z0w rfl rfl h5 (u.mono w)) ?_)));obtain⟨y8,c9,d⟩:=zq d
 refine jf rfl q2p rfl (zg1 (u.mono w) c9) fun aC aD F U=>?_;obtain⟨aE,rfl,V⟩:=U;refine z8 (zw (z4h ?_));obtain⟨W,Z,d⟩:=zq d
 refine zjf (Oc:=[emp,box E [vs0] 146]) (Or:=A) _ (fun(s:List (Int×Int)) R O=> ∃ (e:Value) (f:Frag),(∃ J,O.Perm (J++[box E [e] 146,f]))∧ORep kA2tInti64 R f e s∧True) (fun(s:List (Int×Int)) (c:Code) R O=>False) _ _ rfl q3g (zee (N:=N) V) (List.Perm.refl _) (by decide) (by rintro _ _ _ rfl;rfl) (by rintro s R2 R3 O2 n ⟨e,f,G,o,_⟩;exact⟨e,f,G,o.mono n,trivial⟩) (fun _ _ _ _ _ _ h=>h) (fun _ _ _ _ _ h=>h.elim) ⟨vs0,emp,⟨[],(pk 1 rfl (pk 0 rfl (List.Perm.refl _)))⟩,(z14 (T:=kA2tInti64)),trivial⟩ Z ?_ ?_ ?_
 rintro a aa aF aG au aH av aw ax H ⟨e,f,⟨_,G⟩,o,_⟩ p aI;have b:=p;clear p;(try dsimp only at b);refine zfl (zj8 G) ?_;obtain rfl:=H;refine zl (kw rfl q35 fun j=>?_);refine jy (i:=0) (vs:=[(vi a.1.1),(vi a.1.2)]) zw7 rfl rfl rfl rfl rfl rfl (qc rfl (qc rfl kg)) ?_
 refine z8 (zn (kw rfl zd9 fun k=>?_));refine jy (i:=0) (vs:=[(vi a.2.to),(vi a.2.out)]) z9p rfl rfl rfl rfl rfl rfl (qc rfl (qc rfl kg)) ?_;refine z8 ?_
 refine⟨rfl,rfl,(RH.le.refl _),[box k [(vi a.2.to),(vi a.2.out)] 57,box j [(vi a.1.1),(vi a.1.2)] 158,box E [e] 146,f],List.Perm.refl _,fun aJ=>?_⟩;refine zw (zt ?_);obtain⟨x,ab,b⟩:=zq b
 refine dz 3 [] [phX (.agg #[(vi a.2.to),(vi a.2.out)]),phX (ik x),phX (.bool (decide (a.2.to=x.to∧a.2.out=x.out)))] mixed (by kernel_rfl) (gu ⟨zo,zo,zo,trivial⟩) ⟨?_,?_,?_,trivial⟩ fun aK g=>?_;intro l aL n ha hd;exact za rfl rfl rfl (zz (vz (i:=0) zua z9p (ha 5 rfl) rfl rfl rfl))
 intro l aN n ha hd;exact za rfl rfl rfl (bu (vs:=[]) q3e rfl (zbf  ab) (fun _ _ h=>h));rintro l aO n ha ⟨d0,d1,_⟩;exact za rfl rfl rfl (zz (zoy q3r (d0 rfl) (d1 rfl)));intro aR ad aS ae aT af;obtain rfl:=Eq.symm ad;obtain rfl:=Eq.symm ae;obtain rfl:=Eq.symm af;refine z8 (zu rfl b (fun b=>?_) (fun b=>?_))
 refine zn (zm (qj (i:=2) zzh rfl rfl rfl) (zm (vz (i:=1) q3s zw7 rfl rfl rfl rfl) (il (T:=kA2tInti64) (X:=([((a.1.1,a.1.2):(Int×Int))]:List (Int×Int))) (ps:=[(0,(.agg #[(vi a.1.1),(vi a.1.2)]))]) (css:=[[(vi a.1.1),(vi a.1.2)]]) rfl underlying146 zzo rfl rfl (uj ⟨⟨_,_,rfl,rfl,rfl⟩,trivial⟩) rfl rfl (by decide) fun ag aU y ah=>?_)))
 refine gq (i:=0) rfl ah fun ai q ak=>?_;have al:VRep (tSl true kA2tInti64) ai ag ([((a.1.1,a.1.2):(Int×Int))]:List (Int×Int)):=(z3i ak y);obtain⟨I,b⟩:=zb b
 refine ow (i:=3) (X:=aa) (Y:=([((a.1.1,a.1.2):(Int×Int))]:List (Int×Int))) rfl underlying146 zzo rfl rfl rfl (o.mono (g.trans q)) (j5 (Sub.v (B:=(tSl false kA2tInti64)) (ut Sub.refl (fun _=>rfl)) al)) I.1 I.2 fun z K C=>?_
 refine jy (i:=2) (vs:=[z]) q20 rfl rfl (aj C) rfl rfl rfl (qc (z07 C) kg) ?_;refine z8 ?_;obtain⟨rfl,rfl⟩:=Prod.mk.inj (Option.some.inj b)
 exact⟨rfl,(g.trans q),[box k [(vi a.2.to),(vi a.2.out)] 57,box j [(vi a.1.1),(vi a.1.2)] 158,box E [z] 146,K],List.Perm.refl _,rfl,⟨z,K,⟨[box k [(vi a.2.to),(vi a.2.out)] 57,box j [(vi a.1.1),(vi a.1.2)] 158],(List.Perm.refl _)⟩,C,trivial⟩⟩;refine qb ?_
 obtain⟨rfl,rfl⟩:=Prod.mk.inj (Option.some.inj b)
 exact⟨rfl,g,[box k [(vi a.2.to),(vi a.2.out)] 57,box j [(vi a.1.1),(vi a.1.2)] 158,box E [e] 146,f],List.Perm.refl _,rfl,⟨e,f,⟨[box k [(vi a.2.to),(vi a.2.out)] 57,box j [(vi a.1.1),(vi a.1.2)] 158],(List.Perm.refl _)⟩,(o.mono g),trivial⟩⟩
 rintro aV aW ay L ⟨M,aX,⟨_,G⟩,am,_⟩;refine⟨_,_,G,?_⟩;refine zl (zm (qj (i:=0) zzh rfl rfl rfl) (gq (i:=1) rfl am fun an P ao=>?_));have ap:VRep (tSl false kA2tInti64) an M W:=(z7h ao);obtain⟨aY,aq,d⟩:=zq d;refine jf rfl q3p rfl (zbz ap aq) fun Q aZ S ar=>?_
 refine zi Q (z8 (qm ?_));obtain rfl:=Option.some.inj d;refine qa (D:=[]) (J:=[box E [M] 146]) (rs:=[.tmp 2]) (vs:=[Q]) ((((w.trans F).trans L).trans P).trans S) rfl rfl ⟨rfl,trivial⟩ ?_;exact⟨rfl,ar⟩;exact fun _ _ _ _ _ h=>h.elim
theorem q2y:Enters prog 100:=enters_of func100 rfl (by kernel_rfl)
theorem zda{N:Nat}{R:RH}{m:Mach}{e:Value}(d:VRep (jv false false) R e m){r:Bool×Int}(a:z1l N m=some r):CallP prog 89 #[e] R (fun v R'=>v= .tuple #[(.bool r.1),(vi r.2)]):=by
 refine qd (args:=[e]) func89 rfl rfl fun A=>?_;rw [z1l] at a;refine zl (kz (T:=(jv false false)) rfl rfl rfl d fun s t c k u=>?_);refine zi (.bool false) (zi (vi 0) (z8 (zt (zl (zm (ky z0w rfl rfl k (d.mono c)) ?_)))));obtain⟨f,l,a⟩:=zq a
 refine jf rfl zyi rfl (z4b (d.mono c) l) fun w n b o=>?_;obtain rfl:=o;refine zi (vi f) (qy (zg (vi f) (zm (ww rfl rfl) (z8 (zu rfl a (fun a=>?_) (fun a=>?_))))));refine zl (zg (vi f) (zi (.bool false) (zi (vi f) (z8 (qm ?_)))));obtain rfl:=Option.some.inj a
 refine qa (D:=[]) (J:=[]) (rs:=[.tmp 2,.tmp 3]) (vs:=[(.bool false),(vi f)]) (c.trans b) rfl rfl ⟨rfl,rfl,trivial⟩ ?_;exact⟨rfl,rfl⟩;refine qb (zl (zm (ky z0w rfl rfl (k.mono b) (d.mono (c.trans b))) ?_));obtain⟨g,i,a⟩:=zq a
 refine jf rfl q2y rfl (zc5 (d.mono (c.trans b)) i) fun p q h j=>?_;refine zm (qo rfl underlying146 rfl (j5 j)) (zm (yw rfl rfl) (zi (.bool (decide ((↑g.length:Int)=0))) (zi (vi 0) (z8 (qm ?_)))));obtain rfl:=Option.some.inj a
 refine qa (D:=[]) (J:=[]) (rs:=[.tmp 2,.tmp 3]) (vs:=[(.bool (decide ((↑g.length:Int)=0))),(vi 0)]) ((c.trans b).trans h) rfl rfl ⟨rfl,rfl,trivial⟩ ?_;exact⟨rfl,rfl⟩
theorem q4b:Enters prog 89:=enters_of func89 rfl (by kernel_rfl)
theorem zde{N:Nat}{R:RH}{p0_:Mach}{a:Value}(c:PRep (jv false false) R a p0_){r:Bool}(b:z15 N p0_=some r):CallP prog 88 #[a] R (fun v R'=>v=(.bool r)):=by
 refine qd (args:=[a]) func88 rfl rfl fun A=>?_;rw [z15] at b;refine zl (zi (.bool false) (qy (qh rfl z0w rfl c fun i f=>?_)));obtain⟨d,g,b⟩:=zq b;refine jf rfl q4b rfl (zda f g) fun j k e h=>?_;obtain rfl:=h
 refine zg (.tuple #[(.bool d.1),(vi d.2)]) (zm (jr rfl rfl) (zm (jr rfl rfl) (zi (.bool d.1) (zi (vi d.2) (qy (zg (.bool d.1) (zi (.bool d.1) (z8 (qm ?_)))))))));obtain rfl:=Option.some.inj b;refine qa (D:=[]) (J:=[]) (rs:=[.tmp 1]) (vs:=[(.bool d.1)]) e rfl rfl ⟨rfl,trivial⟩ ?_;exact⟨rfl,rfl⟩
theorem q58:Enters prog 88:=enters_of func88 rfl (by kernel_rfl)
theorem zlu:FieldOk prog 121 0 0:=by
 obtain⟨i,hi,a⟩: ∃ i,prog.info? 33=some i∧i.size=1:=uf (by kernel_rfl);exact dm underlying121 rfl rfl hi (by rw [a];rfl)
theorem q1e: ∀ w,(isAgg 33).run prog w= .ok false w:=fun w=>by kernel_rfl
theorem q2a: ∀ w,∃ z,(zeroValue 117).run prog w= .ok z w∧z.cells=([.slice none 0 0]:List Value).toArray:=fun w=>⟨vs0,by kernel_rfl,rfl⟩
theorem q1s: ∀ w,(sizeOf 117).run prog w= .ok 1 w:=fun w=>by kernel_rfl
theorem q3f: ∀ w,∃ z,(zeroValue 148).run prog w= .ok z w∧z.cells=([.nilFunc]:List Value).toArray:=fun w=>⟨.nilFunc,by kernel_rfl,rfl⟩
theorem q1t: ∀ w,(sizeOf 148).run prog w= .ok 1 w:=fun w=>by kernel_rfl
theorem zzt: ∀ w,(isAgg 148).run prog w= .ok false w:=fun w=>by kernel_rfl
theorem zwj: ∀ w,(isAgg 117).run prog w= .ok false w:=fun w=>by kernel_rfl
theorem zzf:Enters prog 101:=enters_of func101 rfl (by kernel_rfl)
theorem z8q{N:Nat}(F:Nat): ∀ {R:RH} {s:Int} {a:Nat} {p0_:List Bool} {e:Value} {fM:Frag} (f:ORep xe R fM e p0_) {p1_:Mach} {d:Value} (k:PRep (jv false false) R d p1_) {b:Nat} {r:List Bool} (c:xk N F s p0_ p1_=some r),CallG prog 101 #[(vi s),(.pointer (some ⟨a,0,none⟩)),d,(.pointer (some ⟨b,0,none⟩))] R [box a [e] 117,fM,box b [.func (.func 101) #[] #[(.pointer (some ⟨a,0,none⟩)),d,(.pointer (some ⟨b,0,none⟩))]] 148] (fun v R' O'=> ∃ l m,v= .tuple #[]∧O'=[box a [l] 117,m,box b [.func (.func 101) #[] #[(.pointer (some ⟨a,0,none⟩)),d,(.pointer (some ⟨b,0,none⟩))]] 148]∧ORep xe R' m l r):=by
  induction F with
  |zero=>intros;rename_i c;exact qw c
  |succ F ih=>
    intro R s a p0_ e fM f p1_ d k b r c
    refine z5d (args:=[(vi s),(.pointer (some ⟨a,0,none⟩)),d,(.pointer (some ⟨b,0,none⟩))]) func101 rfl rfl fun A=>?_
    rw [xk] at c
    refine zt ?_
    refine zt ?_
    refine zn ?_
    refine jq (v:=(vi s)) rfl (ze rfl) ?_
    refine jq rfl (yw rfl rfl) ?_
    refine jq (v:=(.bool (decide (s=(-1))))) rfl (ze rfl) ?_
    refine qp rfl rfl rfl rfl (fun o=>qg (v:=e) (qj (i:=0) zwj rfl rfl rfl)) fun v7 h8=>?_
    refine qp rfl rfl rfl rfl (fun o=>qg (v:=(vi s)) (ze rfl)) fun v9 G=>?_
    obtain⟨q,c⟩:=zb c
    refine qp rfl rfl rfl rfl (fun o=>z3c (i:=s.toNat) z99 (h8.1 (zh rfl o)) f (zf (G.1 (zh rfl o)) (q (zh rfl o)).1) (zx (q (zh rfl o)))) fun ae H=>?_
    refine qp rfl rfl rfl rfl (fun o=>qg (zmx (za9 (i:=s.toNat) (j:=1) ty4 f rfl rfl (H.1 (zh rfl o)) (zx (q (zh rfl o)))))) fun af I=>?_
    refine jq rfl (p9 rfl rfl (fun hb=>(I.1 (zh rfl hb)))) ?_
    refine z8 ?_
    refine zu rfl c (fun c=>?_) (fun c=>?_)
    · refine qm ?_
      obtain rfl:=Option.some.inj c
      refine z3e (D:=[]) (J:=[]) (O':=[box a [e] 117,fM,box b [(.func (.func 101) #[] #[(.pointer (some ⟨a,0,none⟩)),d,(.pointer (some ⟨b,0,none⟩))])] 148]) (rs:=[]) (vs:=[]) (RH.le.refl _) ((pk 0 rfl (pk 0 rfl (pk 0 rfl (List.Perm.refl _))))) rfl trivial ?_
      exact⟨e,fM,rfl,rfl,f⟩
    · refine qb ?_
      refine zt ?_
      refine zn ?_
      refine zm (qj (i:=0) zwj rfl rfl rfl) ?_
      refine zg (vi s) ?_
      obtain⟨t,c⟩:=zb c
      refine oz (i:=s.toNat) rfl z99 rfl f (zf rfl t.1) (zx t) fun ah K=>?_
      refine z3f (i:=s.toNat) (j:=1) ty4 f rfl rfl K (zx t) rfl (sw.2 rfl) fun L M=>?_
      refine z8 ?_
      refine zt ?_
      refine zn ?_
      refine j6 rfl yu ug rfl k fun ai O=>?_
      refine qh rfl z1n rfl O fun aj P=>?_
      refine zg (vi s) ?_
      obtain⟨x,c⟩:=zb c
      refine kv (i:=s.toNat) rfl za4 rfl (j5 P) (zf rfl x.1) (zx x) fun ak Q=>?_
      refine qh rfl z9h rfl Q fun al y=>?_
      refine zm (qo rfl underlying58 rfl (j5 y)) ?_
      refine zg (vi 0) ?_
      refine z8 ?_
      refine zw ?_
      refine je (γ:=Nat×Int×(List Bool)×Value×Frag) (rs [6,7,24,33]) (fun g=>[(24,(vi g.2.1))]) (fun g=>[box b [(.func (.func 101) #[] #[(.pointer (some ⟨a,0,none⟩)),d,(.pointer (some ⟨b,0,none⟩))])] 148,box a [g.2.2.2.1] 117,g.2.2.2.2]++A) (fun g R=>xy N (xk N F) s p1_ g.1 g.2.1 g.2.2.1=some r∧ORep xe R g.2.2.2.2 g.2.2.2.1 g.2.2.1∧True) (fun g=>g.1) (N,0,(up p0_ s true),e,L) ⟨[],(pk 2 rfl (pk 0 rfl (pk 0 rfl (List.Perm.refl _))))⟩ ⟨c,M,trivial⟩ ?_
      clear c
      rintro⟨p,h,S,u,w⟩ am an n ⟨c,z,_⟩
      rcases p with _|p
      · exact qw c
      replace c:xy N (xk N F) s p1_ (p+1) h S=some r:=c;rw [xy] at c
      refine zt ?_
      refine zn ?_
      refine zm (j4 rfl rfl) ?_
      refine z8 ?_
      refine zt ?_
      refine zu rfl c (fun c=>?_) (fun c=>?_)
      · refine qb ?_
        refine zt ?_
        refine zw ?_
        refine zt ?_
        refine zn ?_
        obtain⟨B,c⟩:=zb c
        refine kv (i:=h.toNat) rfl za2 rfl (j5 (y.mono n)) (zf rfl B.1) (zx B) fun ao T=>?_
        refine qh rfl zdd rfl T fun ap U=>?_
        obtain rfl:=tq.1 U
        refine kw rfl zd9 fun C=>?_
        refine jy (i:=0) (vs:=[(vi ((ix (ix p1_.rows s) h).to)),(vi ((ix (ix p1_.rows s) h).out))]) z9p rfl rfl rfl rfl rfl rfl (qc rfl (qc rfl kg)) ?_
        refine z8 ?_
        refine zn ?_
        refine zm (qj (i:=1) zzt rfl rfl rfl) ?_
        refine zm (qi ll rfl) ?_
        refine zm (qj (i:=0) ag3 rfl rfl rfl) ?_
        obtain⟨V,W,c⟩:=zq c
        refine zf5 (Oc:=[box a [u] 117,w,box b [(.func (.func 101) #[] #[(.pointer (some ⟨a,0,none⟩)),d,(.pointer (some ⟨b,0,none⟩))])] 148]) (Or:=[box C [(vi ((ix (ix p1_.rows s) h).to)),(vi ((ix (ix p1_.rows s) h).out))] 57]++A) (cs:=[(.pointer (some ⟨a,0,none⟩)),d,(.pointer (some ⟨b,0,none⟩))]) (vs:=[(vi ((ix (ix p1_.rows s) h).to))]) rfl zzf rfl rfl ((pk 2 rfl (pk 2 rfl (pk 1 rfl (pk 0 rfl (List.Perm.refl _)))))) (ih z (k.mono n) W) fun aq ar ac E X=>?_
        obtain⟨Y,Z,rfl,rfl,aa⟩:=X
        refine z8 ?_
        refine zn ?_
        obtain⟨ab,c⟩:=zb c
        refine zm (ji rfl rfl ab) ?_
        refine zg (vi (h+1)) ?_
        refine z8 ?_
        exact⟨dkt,E,jm,(p,h+1,V,Y,Z),Nat.lt_succ_self _,⟨rfl,trivial⟩,⟨[box C [(vi ((ix (ix p1_.rows s) h).to)),(vi ((ix (ix p1_.rows s) h).out))] 57],(pk 3 rfl (pk 2 rfl (pk 0 rfl (pk 0 rfl (List.Perm.refl _)))))⟩,c,aa,trivial⟩
      · refine jg ?_
        show zer _ _ _ _ _ .ret _ [] _ _
        obtain rfl:=Option.some.inj c
        refine z3e (D:=[]) (J:=[]) (O':=[box a [u] 117,w,box b [(.func (.func 101) #[] #[(.pointer (some ⟨a,0,none⟩)),d,(.pointer (some ⟨b,0,none⟩))])] 148]) (rs:=[]) (vs:=[]) n ((pk 1 rfl (pk 1 rfl (pk 0 rfl (List.Perm.refl _))))) rfl trivial ?_
        exact⟨u,w,rfl,rfl,z⟩
theorem zb8{N:Nat}{R:RH}{s:Int}{a:Nat}{p0_:List Bool}{d:Value}{fM:Frag}(g:ORep xe R fM d p0_){p1_:Mach}{c:Value}(h:PRep (jv false false) R c p1_){b:Nat}{r:List Bool}(i:xk N N s p0_ p1_=some r):CallG prog 101 #[(vi s),(.pointer (some ⟨a,0,none⟩)),c,(.pointer (some ⟨b,0,none⟩))] R [box a [d] 117,fM,box b [.func (.func 101) #[] #[(.pointer (some ⟨a,0,none⟩)),c,(.pointer (some ⟨b,0,none⟩))]] 148] (fun v R' O'=> ∃ e f,v= .tuple #[]∧O'=[box a [e] 117,f,box b [.func (.func 101) #[] #[(.pointer (some ⟨a,0,none⟩)),c,(.pointer (some ⟨b,0,none⟩))]] 148]∧ORep xe R' f e r):=z8q N g h i
theorem zdc{N:Nat}{R:RH}{s:(List Bool)}{c:Value}(h:VRep (tSl false xe) R c s){f:Bool}{r:Int}(b:z1e N s f=some r):CallP prog 108 #[c,(.bool f)] R (fun v R'=>v=(vi r)):=by
 refine qd (args:=[c,(.bool f)]) func108 rfl rfl fun A=>?_;rw [z1e] at b;refine zl (zi (vi 0) (z8 ?_));obtain⟨l,a,b⟩:=zq b;refine qx (γ:=Unit) (rs [4,19]) (fun g=>[]) (fun g=>[]++A) (fun g R=>l=Ex.go g∧True) ?_ ?_
 refine zl (zg c (zm (qo rfl underlying117 rfl (j5 h)) (zg (vi 0) (z8 (zw (je (γ:=Nat×Int) (rs [4,6,8,19]) (fun g=>[(8,(vi g.2))]) (fun g=>[]++A) (fun g R=>gy N s f g.1 g.2=some l∧True) (fun g=>g.1) (N,0) prm ⟨a,trivial⟩ ?_))))));clear a;rintro⟨k,d⟩ q x e ⟨a,_⟩;rcases k with _|k
 exact qw a;replace a:gy N s f (k+1) d=some l:=a;rw [gy] at a;refine zl (zm (j4 rfl rfl) (z8 (zt (zu rfl a (fun a=>?_) (fun a=>?_)))));refine qb (zt (zw (zl (zg (vi d) (zi (vi d) (qy (zg (.bool f) (zg c (zg (vi d) ?_)))))))))
 obtain⟨j,a⟩:=zb a;refine kv (i:=d.toNat) rfl z99 rfl (j5 (h.mono e)) (zf rfl j.1) (zx j) fun t m=>?_;refine qh rfl ty4 rfl m fun u n=>?_;obtain rfl:=sw.1 n;refine zm (zus underlying4 rfl rfl) (z8 (zu rfl a (fun a=>?_) (fun a=>?_)))
 refine zl (zg (vi d) (zi (vi d) (z8 (qm ?_))));replace b:=z00 a b;obtain rfl:=Option.some.inj b;refine qa (D:=[]) (J:=[]) (rs:=[.tmp 4]) (vs:=[(vi d)]) e rfl rfl ⟨rfl,trivial⟩ ?_;exact⟨rfl,rfl⟩;refine qb (zn ?_);obtain⟨o,a⟩:=zb a
 refine zm (ji rfl rfl o) (zg (vi (d+1)) (z8 ?_));exact⟨dkt,(RH.le.refl _),jm,(k,d+1),Nat.lt_succ_self _,⟨rfl,trivial⟩,prm,a,trivial⟩;refine jg ?_;exact⟨dkt,e,jm,(),trivial,prm,(Option.some.inj a).symm,trivial⟩;rintro y w z p ⟨rfl,_⟩;replace b:=z0v b;refine zl (zi (vi (-1)) (z8 (qm ?_)))
 obtain rfl:=Option.some.inj b;refine qa (D:=[]) (J:=[]) (rs:=[.tmp 4]) (vs:=[(vi (-1))]) p rfl rfl ⟨rfl,trivial⟩ ?_;exact⟨rfl,rfl⟩
theorem q3l:Enters prog 108:=enters_of func108 rfl (by kernel_rfl)
theorem zat{N:Nat}{R:RH}{s:(List Bool)}{a:Value}(d:VRep (tSl false xe) R a s){c:Bool}{r:Bool}(b:lh N s c=some r):CallP prog 102 #[a,(.bool c)] R (fun v R'=>v=(.bool r)):=by
 refine qd (args:=[a,(.bool c)]) func102 rfl rfl fun A=>?_;rw [lh] at b;refine zl (zi (.bool false) (qy (zg a (zg (.bool c) ?_))));obtain⟨f,g,b⟩:=zq b;refine jf rfl q3l rfl (zdc d g) fun i j e h=>?_;obtain rfl:=h
 refine zm (r9 rfl rfl) (zi (.bool (decide (0≤f))) (z8 (qm ?_)));obtain rfl:=Option.some.inj b;refine qa (D:=[]) (J:=[]) (rs:=[.tmp 4]) (vs:=[(.bool (decide (0≤f)))]) e rfl rfl ⟨rfl,trivial⟩ ?_;exact⟨rfl,rfl⟩
theorem q3q:Enters prog 102:=enters_of func102 rfl (by kernel_rfl)
theorem zc8{N:Nat}{R:RH}{m:Mach}{h:Value}(j:VRep (jv false false) R h m){r:Bool×Int}(a:z0n N m=some r):CallP prog 91 #[h] R (fun v R'=>v= .tuple #[(.bool r.1),(vi r.2)]):=by
 refine qd (args:=[h]) func91 rfl rfl fun A=>?_;rw [z0n] at a;refine zl (kz (T:=(jv false false)) rfl rfl rfl j fun o Z f O L=>?_);refine zi (.bool false) (zi (vi 0) (z8 (zt (zl (zm (ky z0w rfl rfl O (j.mono f)) ?_)))));obtain⟨p,P,a⟩:=zq a
 refine jf rfl zyi rfl (z4b (j.mono f) P) fun v8 Q e S=>?_;obtain rfl:=S;refine zi (vi p) (qy (zg (vi p) (zm (ww rfl rfl) (z8 (zu rfl a (fun a=>?_) (fun a=>?_))))));refine zl (zg (vi p) (zi (.bool false) (zi (vi p) (z8 (qm ?_)))));obtain rfl:=Option.some.inj a
 refine qa (D:=[]) (J:=[]) (rs:=[.tmp 2,.tmp 3]) (vs:=[(.bool false),(vi p)]) (f.trans e) rfl rfl ⟨rfl,rfl,trivial⟩ ?_;exact⟨rfl,rfl⟩;refine qb (zl (j6 rfl yu ug rfl (L.mono e) fun U w=>?_));refine qh rfl z1n rfl w fun V x=>?_;refine zm (qo rfl underlying28 rfl (j5 x)) ?_
 obtain⟨g,a⟩:=zb a;refine z6u (T:=xe) (m:=(↑m.rows.length:Int).toNat) (c:=(↑m.rows.length:Int).toNat) rfl underlying117 zo4 (zf rfl g.1) (zf rfl g.1) (Nat.le_refl _) (zdm g) (zdi g) fun q y z k=>?_;refine kw rfl q2a fun b=>?_
 refine jy (i:=0) (vs:=[q]) q1s rfl rfl (aj k) rfl rfl rfl (qc (z07 k) kg) ?_;refine qy (kw rfl q3f fun d=>?_)
 refine qy (zm (l9 (fs:=[]) (cs:=[(.pointer (some ⟨b,0,none⟩)),o,(.pointer (some ⟨d,0,none⟩))]) rfl rfl) (jy (i:=0) (vs:=[(.func (.func 101) #[] #[(.pointer (some ⟨b,0,none⟩)),o,(.pointer (some ⟨d,0,none⟩))])]) q1t rfl rfl rfl rfl rfl rfl (qc rfl kg) ?_));refine qy (zm (qj (i:=0) zzt rfl rfl rfl) ?_)
 obtain⟨B,C,a⟩:=zq a
 refine zf5 (Oc:=[box b [q] 117,y,box d [(.func (.func 101) #[] #[(.pointer (some ⟨b,0,none⟩)),o,(.pointer (some ⟨d,0,none⟩))])] 148]) (Or:=[]++A) (cs:=[(.pointer (some ⟨b,0,none⟩)),o,(.pointer (some ⟨d,0,none⟩))]) (vs:=[(vi 0)]) rfl zzf rfl rfl ((pk 1 rfl (pk 1 rfl (pk 0 rfl (List.Perm.refl _))))) (zb8 k (L.mono e) C) fun W X M s E=>?_
 obtain⟨l,F,rfl,rfl,G⟩:=E;refine qy (zm (qj (i:=0) zwj rfl rfl rfl) ?_);obtain⟨n,H,a⟩:=zq a;refine zcw (cs:=[]) (vs:=[l,(.bool false)]) (φ:=fun v=>v=(.bool n)) rfl q3q rfl rfl (fun I t u=>zat (z7h ((zju 1 rfl G t u):VRep (vo xe) I l B)) H) fun Y K=>?_
 obtain rfl:=K;refine zm (rf rfl) (zi (.bool (!n)) (zi (vi 0) (z8 (qm ?_))));obtain rfl:=Option.some.inj a
 refine qa (D:=[]) (J:=[box b [l] 117,F,box d [(.func (.func 101) #[] #[(.pointer (some ⟨b,0,none⟩)),o,(.pointer (some ⟨d,0,none⟩))])] 148]) (rs:=[.tmp 2,.tmp 3]) (vs:=[(.bool (!n)),(vi 0)]) ((f.trans e).trans s) rfl rfl ⟨rfl,rfl,trivial⟩ ?_;exact⟨rfl,rfl⟩
theorem q4n:Enters prog 91:=enters_of func91 rfl (by kernel_rfl)
theorem zdb{N:Nat}{R:RH}{p0_:Mach}{a:Value}(c:PRep (jv false false) R a p0_){r:Bool}(b:z11 N p0_=some r):CallP prog 90 #[a] R (fun v R'=>v=(.bool r)):=by
 refine qd (args:=[a]) func90 rfl rfl fun A=>?_;rw [z11] at b;refine zl (zi (.bool false) (qy (qh rfl z0w rfl c fun i f=>?_)));obtain⟨d,g,b⟩:=zq b;refine jf rfl q4n rfl (zc8 f g) fun j k e h=>?_;obtain rfl:=h
 refine zg (.tuple #[(.bool d.1),(vi d.2)]) (zm (jr rfl rfl) (zm (jr rfl rfl) (zi (.bool d.1) (zi (vi d.2) (qy (zg (.bool d.1) (zi (.bool d.1) (z8 (qm ?_)))))))));obtain rfl:=Option.some.inj b;refine qa (D:=[]) (J:=[]) (rs:=[.tmp 1]) (vs:=[(.bool d.1)]) e rfl rfl ⟨rfl,trivial⟩ ?_;exact⟨rfl,rfl⟩
theorem q4p:Enters prog 90:=enters_of func90 rfl (by kernel_rfl)
theorem q3c: ∀ w,∃ z,(zeroValue 32).run prog w= .ok z w∧z.cells=([.slice none 0 0]:List Value).toArray:=fun w=>⟨vs0,by kernel_rfl,rfl⟩
theorem za3: ∀ w,∃ z,(zeroValue 3).run prog w= .ok z w∧z.cells=([.int .i64 0]:List Value).toArray:=fun w=>⟨(vi 0),by kernel_rfl,rfl⟩
theorem zts: ∀ w,(sizeOf 32).run prog w= .ok 1 w:=fun w=>by kernel_rfl
theorem zgn{N:Nat}{R:RH}{m:Mach}{a:Value}(d:VRep (jv false false) R a m){r:Mach}(b:z5s N m=some r):CallP prog 103 #[a] R (fun v R'=> ∃ u0,v= .func (.func 109) #[] #[u0]∧PRep (jv false false) R' u0 r):=by
 refine qd (args:=[a]) func103 rfl rfl fun A=>?_;rw [z5s] at b;refine zl (kz (T:=(jv false false)) rfl rfl rfl d fun c g e h f=>?_);refine zi .nilFunc (qy (zm (l9 (fs:=[]) (cs:=[c]) rfl rfl) (zi (.func (.func 109) #[] #[c]) (z8 (qm ?_)))));obtain rfl:=Option.some.inj b
 refine qa (D:=[]) (J:=[]) (rs:=[.tmp 2]) (vs:=[(.func (.func 109) #[] #[c])]) e rfl rfl ⟨rfl,trivial⟩ ?_;exact⟨rfl,⟨c,rfl,f⟩⟩
theorem q42:Enters prog 103:=enters_of func103 rfl (by kernel_rfl)
theorem zzl: ∀ w,∃ z,(zeroValue 166).run prog w= .ok z w∧z.cells=((uz (ah 16 (List.replicate 16 (((0:Int),(0:Int)):(Int×Int)))))).toArray:=fun w=>⟨(.agg #[(vi 0),(vi 0),(vi 0),(vi 0),(vi 0),(vi 0),(vi 0),(vi 0),(vi 0),(vi 0),(vi 0),(vi 0),(vi 0),(vi 0),(vi 0),(vi 0),(vi 0),(vi 0),(vi 0),(vi 0),(vi 0),(vi 0),(vi 0),(vi 0),(vi 0),(vi 0),(vi 0),(vi 0),(vi 0),(vi 0),(vi 0),(vi 0)]),by kernel_rfl,by kernel_rfl⟩
theorem zzm:ArrOk prog 166 16 2:=zbw (e:=158) underlying166 (fun w=>by kernel_rfl)
theorem q3b:ArrOk prog 158 2 1:=zbw (e:=3) underlying158 (fun w=>by kernel_rfl)
theorem zzp: ∀ w,(isAgg 166).run prog w= .ok true w:=fun w=>by kernel_rfl
theorem zws: ∀ w,(sizeOf 166).run prog w= .ok 32 w:=fun w=>by kernel_rfl
theorem zjz{N:Nat}{R:RH}{m:Mach}{n:Value}(O:VRep (jv false false) R n m){p:(List Int)}{h:Value}(P:VRep (tSl false (qf .i64)) R h p){s:Int}{r:(Arr 16 (Int×Int))}(k:z5h N m p s=some r):CallP prog 113 #[n,h,(vi s)] R (fun v R'=>v=(z4d r)):=by
 refine qd (args:=[n,h,(vi s)]) func113 rfl rfl fun A=>?_;rw [z5h] at k;refine zl (kz (T:=(jv false false)) rfl rfl rfl O fun v1 R3 C h5 h2=>?_);refine kw rfl zzl fun M=>?_;refine qy (kw rfl zzl fun B=>?_);refine z8 ?_;obtain⟨e,b,k⟩:=zq k
 refine qx (γ:=((Arr 16 (Int×Int)))) (rs [8,38]) (fun g=>[]) (fun g=>[box M (uz (ah 16 (List.replicate 16 (((0:Int),(0:Int)):(Int×Int))))) 166,box B (uz g) 166]++A) (fun g R=>e=g∧True) ?_ ?_;refine zl (j6 rfl yu ug rfl h2 fun ab Q=>?_);refine qh rfl z1n rfl Q fun ac S=>?_
 refine zg (vi s) ?_;obtain⟨E,b⟩:=zb b;refine kv (i:=s.toNat) rfl za4 rfl (j5 S) (zf rfl E.1) (zx E) fun ad U=>?_;refine qh rfl z9h rfl U fun ae F=>?_
 refine zm (qo rfl underlying58 rfl (j5 F)) (zg (vi 0) (z8 (zw (je (γ:=Nat×Int×((Arr 16 (Int×Int)))) (rs [8,10,16,38]) (fun g=>[(16,(vi g.2.1))]) (fun g=>[box M (uz (ah 16 (List.replicate 16 (((0:Int),(0:Int)):(Int×Int))))) 166,box B (uz g.2.2) 166]++A) (fun g R=>dw N m p s g.1 g.2.1 g.2.2=some e∧True) (fun g=>g.1) (N,0,(ah 16 (List.replicate 16 (((0:Int),(0:Int)):(Int×Int))))) ⟨[],(pk 1 rfl (pk 0 rfl (List.Perm.refl _)))⟩ ⟨b,trivial⟩ ?_))))
 clear b;rintro⟨l,a,d⟩ af ag f ⟨b,_⟩;rcases l with _|l;exact qw b;replace b:dw N m p s (l+1) a d=some e:=b;rw [dw] at b;refine zl (zm (j4 rfl rfl) (z8 (zt (zu rfl b (fun b=>?_) (fun b=>?_)))));refine qb ?_;obtain⟨t,c,b⟩:=zq b
 refine qx (γ:=((Arr 16 (Int×Int)))) (rs [8,10,18,37]) (fun g=>[]) (fun g=>[box M (uz (ah 16 (List.replicate 16 (((0:Int),(0:Int)):(Int×Int))))) 166,box B (uz g) 166]++A) (fun g R=>t=g∧True) ?_ ?_;refine zw (zl (zg (vi a) ?_));obtain⟨G,c⟩:=zb c
 refine kv (i:=a.toNat) rfl za2 rfl (j5 (F.mono f)) (zf rfl G.1) (zx G) fun ai V=>?_;refine qh rfl zdd rfl V fun aj W=>?_;obtain rfl:=tq.1 W;refine kw rfl zd9 fun u=>?_
 refine zi (vi a) (jy (i:=0) (vs:=[(vi ((ix (ix m.rows s) a).to)),(vi ((ix (ix m.rows s) a).out))]) z9p rfl rfl rfl rfl rfl rfl (qc rfl (qc rfl kg)) ?_)
 refine qy (zg (vi a) (zm (qi z7p rfl) (zm (qj (i:=0) ag3 rfl rfl rfl) (zm (xn (ps:=[(0,(vi ((ix (ix m.rows s) a).out))),(1,(vi (-1)))]) (v:=(.agg #[(vi ((ix (ix m.rows s) a).out)),(vi (-1))])) rfl (fun w=>by kernel_rfl)) ?_))));obtain⟨x,c⟩:=zb c
 refine zm (lm (i:=a.toNat) zzm rfl (zf rfl x.1) (Nat.lt_of_lt_of_eq (zx x) d.2)) (z6r (sz:=2) (cl:=lc) (z:=(((ix (ix m.rows s) a).out,(-1)):(Int×Int))) (vs:=[(vi ((ix (ix m.rows s) a).out)),(vi (-1))]) (q:=a) (i:=a.toNat) (o:=0) (j:=2) (X:=d) co_A2tInti64.len zw7 rfl rfl (by omega) rfl (Nat.lt_of_lt_of_eq (zx x) d.2) rfl rfl rfl (qc rfl (qc rfl kg)) rfl rfl ?_)
 refine qy (zm (qi ll rfl) (zm (qj (i:=0) ag3 rfl rfl rfl) (zm (ww rfl rfl) (z8 (zu rfl c (fun c=>?_) (fun c=>?_))))));refine z2k 8 mixed (by kernel_rfl) (by kernel_rfl) ?_;refine uo (v:=(vi a)) (ze rfl) ?_;refine uo (v:=h) (ze rfl) ?_
 refine uo (v:=(.pointer (some ⟨u,0,none⟩))) (qi ll rfl) ?_;refine uo (v:=(vi ((ix (ix m.rows s) a).to))) (qj (i:=0) ag3 rfl rfl rfl) ?_;obtain⟨H,c⟩:=zb c;refine z2h (gm (i:=((ix (ix m.rows s) a).to).toNat) ig rfl (j5 (P.mono (C.trans f))) (zf rfl H.1) (zx H)) fun ak Y=>?_
 refine uo (bi (ko ty3 rfl Y)) ?_;obtain⟨y,c⟩:=zb c;refine uo (v:=(.pointer (some ⟨B,0+a.toNat*2,none⟩))) (lm (i:=a.toNat) zzm rfl (zf rfl y.1) (Nat.lt_of_lt_of_eq (zx y) (l8 d a (((ix (ix m.rows s) a).out,(-1)):(Int×Int))).2)) ?_
 refine uo (v:=(.pointer (some ⟨B,0+a.toNat*2+1*1,none⟩))) (lm (i:=1) q3b rfl rfl (by decide)) ?_;intro al I
 refine z6r (sz:=2) (cl:=lc) (z:=(((ix (l8 d a (((ix (ix m.rows s) a).out,(-1)):(Int×Int))).1 a).1,(ix p ((ix (ix m.rows s) a).to))):(Int×Int))) (vs:=[(vi (ix p ((ix (ix m.rows s) a).to)))]) (q:=a) (i:=a.toNat) (o:=1) (j:=2) (X:=(l8 d a (((ix (ix m.rows s) a).out,(-1)):(Int×Int)))) co_A2tInti64.len sz3 rfl rfl (by omega) rfl (Nat.lt_of_lt_of_eq (zx y) (l8 d a (((ix (ix m.rows s) a).out,(-1)):(Int×Int))).2) rfl rfl rfl (qc rfl kg) rfl rfl ?_
 refine z8 ?_
 exact⟨dkt,I,jm,(l8 (l8 d a (((ix (ix m.rows s) a).out,(-1)):(Int×Int))) a (((ix (l8 d a (((ix (ix m.rows s) a).out,(-1)):(Int×Int))).1 a).1,(ix p ((ix (ix m.rows s) a).to))):(Int×Int))),trivial,⟨[box u [(vi ((ix (ix m.rows s) a).to)),(vi ((ix (ix m.rows s) a).out))] 57],(List.Perm.refl _)⟩,(Option.some.inj c).symm,trivial⟩
 refine qb ?_;exact⟨dkt,(RH.le.refl _),jm,(l8 d a (((ix (ix m.rows s) a).out,(-1)):(Int×Int))),trivial,⟨[box u [(vi ((ix (ix m.rows s) a).to)),(vi ((ix (ix m.rows s) a).out))] 57],(List.Perm.refl _)⟩,(Option.some.inj c).symm,trivial⟩;rintro t am an K ⟨rfl,_⟩;refine zn ?_;obtain⟨Z,b⟩:=zb b
 refine zm (ji rfl rfl Z) (zg (vi (a+1)) (z8 ?_));exact⟨dkt,K,jm,(l,a+1,t),Nat.lt_succ_self _,⟨rfl,trivial⟩,prm,b,trivial⟩;refine jg ?_;exact⟨dkt,f,jm,d,trivial,prm,(Option.some.inj b).symm,trivial⟩;rintro e ao ap L ⟨rfl,_⟩
 refine zl (zm (ng (j:=1) (v:=(z4d e)) zzp zws rfl rfl (co_A16A2tInti64.len _) rfl) (ay (j:=0) (cs:=(uz (ah 16 (List.replicate 16 (((0:Int),(0:Int)):(Int×Int)))))) (cs':=(uz e)) zws rfl rfl (co_A16A2tInti64.len _) (co_A16A2tInti64.len _) rfl rfl (z0d (zbh _)) ?_));refine z8 (qm ?_)
 obtain rfl:=Option.some.inj k;refine qa (D:=[]) (J:=[box M (uz e) 166,box B (uz e) 166]) (rs:=[.cell 6 166]) (vs:=[(z4d e)]) (C.trans L) rfl rfl ⟨⟨_,rfl,fun w hh=>z6e (i:=0) hh rfl zzp zws (co_A16A2tInti64.len _)⟩,trivial⟩ ?_;exact⟨rfl,rfl⟩
theorem q3t:Enters prog 113:=enters_of func113 rfl (by kernel_rfl)
theorem zzj: ∀ w,∃ z,(zeroValue 169).run prog w= .ok z w∧z.cells=((gp (⟨(0:Int),(ah 16 (List.replicate 16 (((0:Int),(0:Int)):(Int×Int))))⟩:Sc))).toArray:=fun w=>⟨(.agg #[(vi 0),(vi 0),(vi 0),(vi 0),(vi 0),(vi 0),(vi 0),(vi 0),(vi 0),(vi 0),(vi 0),(vi 0),(vi 0),(vi 0),(vi 0),(vi 0),(vi 0),(vi 0),(vi 0),(vi 0),(vi 0),(vi 0),(vi 0),(vi 0),(vi 0),(vi 0),(vi 0),(vi 0),(vi 0),(vi 0),(vi 0),(vi 0),(vi 0)]),by kernel_rfl,by kernel_rfl⟩
theorem zsh: ∀ w,(sizeOf 169).run prog w= .ok 33 w:=fun w=>by kernel_rfl
theorem zwu: ∀ w,(isAgg 169).run prog w= .ok true w:=fun w=>by kernel_rfl
theorem mz3: ∀ w,(zeroValue 3).run prog w= .ok ((Value.int .i64) (0:Int)) w:=fun w=>by kernel_rfl
theorem kt3:KTy prog 3 1 1 false (fun cs=> ∃ x,cs=[.int .i64 x]):=zs4 underlying3 (by kernel_rfl)
theorem q3o:KTy prog 158 2 (2*1) true (ziy 2 (fun cs=> ∃ x,cs=[.int .i64 x])):=zmc underlying158 (by kernel_rfl) kt3
theorem q0c(x:(Int×Int)):ziy 2 (fun cs=> ∃ x,cs=[.int .i64 x]) (lc x):=⟨[[(vi x.1)],[(vi x.2)]],rfl,by
      intro c a
      simp only [List.mem_cons,List.not_mem_nil,or_false] at a
      rcases a with rfl|rfl
      · exact⟨x.1,rfl⟩
      · exact⟨x.2,rfl⟩,rfl⟩
theorem kt166:KTy prog 166 3 (16*2) true (ziy 16 (ziy 2 (fun cs=> ∃ x,cs=[.int .i64 x]))):=zmc underlying166 (by kernel_rfl) q3o
theorem q1g(x:Sc):(fun cs=> ∃ a b,(fun cs=> ∃ x,cs=[.int .i64 x]) a∧(fun cs=> ∃ a b,(ziy 16 (ziy 2 (fun cs=> ∃ x,cs=[.int .i64 x]))) a∧(fun cs=>cs=[]) b∧cs=a++b) b∧cs=a++b) (gp x):=⟨_,_,⟨x.fP,rfl⟩,⟨_,_,(zsk (fun x=>(q0c x)) x.fO),rfl,(List.append_nil _).symm⟩,rfl⟩
theorem q2o:KTy prog 169 4 33 true (fun cs=> ∃ a b,(fun cs=> ∃ x,cs=[.int .i64 x]) a∧(fun cs=> ∃ a b,(ziy 16 (ziy 2 (fun cs=> ∃ x,cs=[.int .i64 x]))) a∧(fun cs=>cs=[]) b∧cs=a++b) b∧cs=a++b):=zpt underlying169 (by kernel_rfl) (by kernel_rfl) (.cons (by decide) rfl (kt3.mono (by decide)) (.cons (by decide) rfl (kt166.mono (by decide)) .nil)) (by
  rintro cs ⟨e,f,c,⟨g,h,d,rfl,rfl⟩,rfl⟩
  simp only [List.length_append,List.length_nil,kt3.len _ c,kt166.len _ d])
theorem zw5:KOk prog 169 ib:=zut q2o (by decide) (by rw [underlying169]) (fun _=>rfl) (fun x=>(q1g x)) zha zbi
theorem zeg{N:Nat}{R:RH}{m:Mach}{G:Value}(H:VRep (jv false false) R G m){p:(List Int)}{o:Value}(y:VRep (tSl false (qf .i64)) R o p){r:(List Int)}(q:z2o N m p=some r):CallP prog 110 #[G,o] R (fun v R'=>VRep (tSl true (qf .i64)) R' v r):=by
 refine qd (args:=[G,o]) func110 rfl rfl fun A=>?_;rw [z2o] at q;refine zl (kz (T:=(jv false false)) rfl rfl rfl H fun v1 R3 n h5 h2=>?_);refine zi vs0 (qy (zj1 (ke:=ib) (ve:=(Value.int .i64)) rfl fun I f7 h8=>?_))
 refine zi I (qy (zg o (zm (qo rfl underlying32 rfl (j5 (y.mono n))) ?_)));obtain⟨z,q⟩:=zb q;refine z6u (T:=(qf .i64)) (m:=(↑p.length:Int).toNat) (c:=(↑p.length:Int).toNat) rfl underlying32 zo3 (zf rfl z.1) (zf rfl z.1) (Nat.le_refl _) (zdm z) (zdi z) fun f Z K aa=>?_;refine zi f (z8 ?_)
 obtain⟨s,b,q⟩:=zq q;refine qx (γ:=(List Int)×Frag) (rs [7,12,16,48]) (fun g=>[]) (fun g=>[g.2]++A) (fun g R=>s=g.1∧ORep (qf .i64) R g.2 f g.1∧capOf f=g.1.length∧True) ?_ ?_
 refine zl (zg o (zm (qo rfl underlying32 rfl (j5 (y.mono n))) (zg (vi 0) (z8 (zw (je (γ:=Nat×Int×(List (Sc×Int))×(List Int)×Frag×Frag) (rs [7,12,18,48]) (fun g=>[(18,(vi g.2.1))]) (fun g=>[g.2.2.2.2.1,g.2.2.2.2.2]++A) (fun g R=>df N m p g.1 g.2.1 g.2.2.1 g.2.2.2.1=some s∧MRep ib (Value.int .i64) R g.2.2.2.2.1 I g.2.2.1∧ORep (qf .i64) R g.2.2.2.2.2 f g.2.2.2.1∧capOf f=g.2.2.2.1.length∧True) (fun g=>g.1) (N,0,[],(mk (↑p.length:Int) (0:Int)),f7,Z) ⟨[],(pk 1 rfl (pk 0 rfl (List.Perm.refl _)))⟩ ⟨b,h8,aa,(K.trans List.length_replicate.symm),trivial⟩ ?_))))))
 clear b;rintro⟨B,a,h,L,P,Q⟩ aw ax l ⟨b,C,M,F,_⟩;rcases B with _|B;exact qw b;replace b:df N m p (B+1) a h L=some s:=b;rw [df] at b;refine zl (zm (j4 rfl rfl) (z8 (zt (zu rfl b (fun b=>?_) (fun b=>?_)))))
 refine qb (zt (zw (zl (zg (vi a) ?_))));obtain⟨S,b⟩:=zb b;refine kv (i:=a.toNat) rfl ig rfl (j5 (y.mono (n.trans l))) (zf rfl S.1) (zx S) fun az ab=>?_;refine qh rfl ty3 rfl ab fun aA ac=>?_;obtain rfl:=jb.1 ac
 refine zi (vi a) (zi (vi (ix p a)) (qy (zg (vi (ix p a)) (zm (ky z0w rfl rfl (h5.mono l) (H.mono (n.trans l))) (zg o (zg (vi a) ?_))))));obtain⟨d,ad,b⟩:=zq b;refine jf rfl q3t rfl (zjz (H.mono (n.trans l)) (y.mono (n.trans l)) ad) fun aB aC e ae=>?_
 obtain rfl:=ae
 refine zm (zqt (ps:=[(0,(vi (ix p a))),(1,(z4d d))]) (pls:= #[(0,1),(1,32)]) (out:=(gp (⟨(ix p a),d⟩:Sc))) (k:=33) (v:=(ib (⟨(ix p a),d⟩:Sc))) rfl underlying169 (zyg (co_Srefines_key.len _) zzj) (fun w=>by kernel_rfl) (.cons rfl rfl (.last rfl (by simp only [co_A16A2tInti64.len];rfl))) (co_Srefines_key.len _) rfl) (kw rfl zzj fun U=>?_)
 refine ay (j:=0) (cs:=(gp (⟨(0:Int),(ah 16 (List.replicate 16 (((0:Int),(0:Int)):(Int×Int))))⟩:Sc))) (cs':=(gp (⟨(ix p a),d⟩:Sc))) zsh rfl rfl (co_Srefines_key.len _) (co_Srefines_key.len _) rfl rfl (z0d (zbi _)) ?_;refine z8 ?_;obtain⟨E,t,b⟩:=zq b
 refine qx (γ:=(List (Sc×Int))×Frag) (rs [10,12,29,41]) (fun g=>[]) (fun g=>[g.2,Q,box U (gp (⟨(ix p a),d⟩:Sc)) 169]++A) (fun g R=>E=g.1∧MRep ib (Value.int .i64) R g.2 I g.1∧True) ?_ ?_
 refine zl (zg I (zm (ng (j:=0) (v:=(ib (⟨(ix p a),d⟩:Sc))) zwu zsh rfl rfl (co_Srefines_key.len _) rfl) (zm (znq (k:=(⟨(ix p a),d⟩:Sc)) underlying164 zw5 mz3 (zhn (i:=1) rfl (C.mono e)) rfl rfl) (zg (.tuple #[(vi (z8m (0:Int) h (⟨(ix p a),d⟩:Sc))),(.bool (z5m h (⟨(ix p a),d⟩:Sc)))]) (zm (jr rfl rfl) (zm (jr rfl rfl) (zi (vi (z8m (0:Int) h (⟨(ix p a),d⟩:Sc))) (zi (.bool (z5m h (⟨(ix p a),d⟩:Sc))) (qy (zg (.bool (z5m h (⟨(ix p a),d⟩:Sc))) (zm (rf rfl) (z8 (zu rfl t (fun t=>?_) (fun t=>?_))))))))))))))
 refine zn (zg I (zm (ng (j:=0) (v:=(ib (⟨(ix p a),d⟩:Sc))) zwu zsh rfl rfl (co_Srefines_key.len _) rfl) (zg I (zm (zuo rfl underlying164 rfl (zhn (i:=1) rfl (C.mono e))) (zes (i:=1) (k:=(⟨(ix p a),d⟩:Sc)) (u:=(↑h.length:Int)) underlying164 zw5 rfl (C.mono e) rfl rfl rfl fun af ag=>?_)))))
 refine z8 ?_;exact⟨dkt,(RH.le.refl _),jm,((zac h (⟨(ix p a),d⟩:Sc) (↑h.length:Int)),af),trivial,⟨[],(pk 1 rfl (pk 1 rfl (pk 0 rfl (List.Perm.refl _))))⟩,(Option.some.inj t).symm,ag,trivial⟩;refine qb ?_
 exact⟨dkt,(RH.le.refl _),jm,(h,P),trivial,⟨[],(pk 1 rfl (pk 1 rfl (pk 0 rfl (List.Perm.refl _))))⟩,(Option.some.inj t).symm,(C.mono e),trivial⟩;rintro⟨E,ai⟩ aD aE x ⟨rfl,V,_⟩
 refine zn (zg f (zg (vi a) (zg I (zm (ng (j:=2) (v:=(ib (⟨(ix p a),d⟩:Sc))) zwu zsh rfl rfl (co_Srefines_key.len _) rfl) (zm (zij (k:=(⟨(ix p a),d⟩:Sc)) underlying164 zw5 mz3 (zhn (i:=0) rfl V) rfl rfl) ?_)))));obtain⟨O,b⟩:=zb b
 refine oz (i:=a.toNat) rfl ig rfl (M.mono (e.trans x)) (zf rfl O.1) (zx O) fun aF aj=>?_;refine z3f (i:=a.toNat) (j:=1) ty3 (M.mono (e.trans x)) rfl rfl aj (zx O) rfl (jb.2 rfl) fun ak al=>?_;refine z8 (zn ?_);obtain⟨am,b⟩:=zb b
 refine zm (ji rfl rfl am) (zg (vi (a+1)) (z8 ?_))
 exact⟨dkt,(e.trans x),jm,(B,a+1,E,(up L a (z8m (0:Int) E (⟨(ix p a),d⟩:Sc))),ai,ak),Nat.lt_succ_self _,⟨rfl,trivial⟩,⟨[box U (gp (⟨(ix p a),d⟩:Sc)) 169],(pk 2 rfl (pk 0 rfl (pk 0 rfl (List.Perm.refl _))))⟩,b,V,al,(F.trans List.length_set.symm),trivial⟩;refine jg ?_
 exact⟨dkt,l,jm,(L,Q),trivial,⟨[P],(List.Perm.refl _)⟩,(Option.some.inj b).symm,M,F,trivial⟩;rintro⟨s,aG⟩ aH aI W ⟨rfl,an,X,_⟩;refine zl (zg f (zi f (z8 (fq (i:=0) rfl an fun ao Y ap=>?_))));have aq:VRep (tSl true (qf .i64)) ao f s:=(z3i ap X);refine qm ?_;obtain rfl:=Option.some.inj q
 refine qa (D:=[]) (J:=[]) (rs:=[.tmp 4]) (vs:=[f]) ((n.trans W).trans Y) rfl rfl ⟨rfl,trivial⟩ ?_;exact⟨rfl,aq⟩
theorem q2b:Enters prog 110:=enters_of func110 rfl (by kernel_rfl)
theorem ze2{N:Nat}{R:RH}{s1_:(List Int)}{b:Value}(e:VRep (tSl false (qf .i64)) R b s1_){s2_:(List Int)}{d:Value}(f:VRep (tSl false (qf .i64)) R d s2_){r:Bool}(c:slices_Equal_int N s1_ s2_=some r):CallP prog 111 #[b,d] R (fun v R'=>v=(.bool r)):=by
 refine qd (args:=[b,d]) func111 rfl rfl fun A=>?_;rw [slices_Equal_int] at c;refine zl (zi (.bool false) (z8 (zt (zl (zg b (zm (qo rfl underlying32 rfl (j5 e)) (zg d (zm (qo rfl underlying32 rfl (j5 f)) (zm (ww rfl rfl) (z8 (zu rfl c (fun c=>?_) (fun c=>?_))))))))))))
 refine zl (zi (.bool false) (z8 (qm ?_)));obtain rfl:=Option.some.inj c;refine qa (D:=[]) (J:=[]) (rs:=[.tmp 4]) (vs:=[(.bool false)]) (RH.le.refl _) rfl rfl ⟨rfl,trivial⟩ ?_;exact⟨rfl,rfl⟩;refine qb ?_;obtain⟨o,a,c⟩:=zq c;refine qx (γ:=Unit) (rs [4,6,11,26]) (fun g=>[]) (fun g=>[]++A) (fun g R=>o=Ex.go g∧True) ?_ ?_
 refine zl (zg b (zm (qo rfl underlying32 rfl (j5 e)) (zg (vi 0) (z8 (zw (je (γ:=Nat×Int) (rs [4,6,13,26]) (fun g=>[(13,(vi g.2))]) (fun g=>[]++A) (fun g R=>bv N s1_ s2_ g.1 g.2=some o∧True) (fun g=>g.1) (N,0) prm ⟨a,trivial⟩ ?_))))));clear a;rintro⟨n,h⟩ u B j ⟨a,_⟩
 rcases n with _|n;exact qw a;replace a:bv N s1_ s2_ (n+1) h=some o:=a;rw [bv] at a;refine zl (zm (j4 rfl rfl) (z8 (zt (zu rfl a (fun a=>?_) (fun a=>?_)))))
 refine qb (zt (zw (zl (zg (vi h) (zi (vi h) (z8 (zt (z2k 9 mixed (by kernel_rfl) (by kernel_rfl) ?_))))))));refine uo (v:=b) (ze rfl) ?_;refine uo (v:=(vi h)) (ze rfl) ?_;obtain⟨l,a⟩:=zb a
 refine z2h (gm (i:=h.toNat) ig rfl (j5 (e.mono j)) (zf rfl l.1) (zx l)) fun w p=>?_;refine uo (bi (ko ty3 rfl p)) ?_;refine uo (v:=d) (ze rfl) ?_;refine uo (v:=(vi h)) (ze rfl) ?_;obtain⟨m,a⟩:=zb a
 refine z2h (gm (i:=h.toNat) ig rfl (j5 (f.mono j)) (zf rfl m.1) (zx m)) fun x q=>?_;refine uo (bi (ko ty3 rfl q)) ?_;refine uo (ww rfl rfl) ?_;intro y k;refine z8 (zu rfl a (fun a=>?_) (fun a=>?_));refine zl (zi (.bool false) (z8 (qm ?_)));replace c:=z00 a c
 obtain rfl:=Option.some.inj c;refine qa (D:=[]) (J:=[]) (rs:=[.tmp 4]) (vs:=[(.bool false)]) (j.trans k) rfl rfl ⟨rfl,trivial⟩ ?_;exact⟨rfl,rfl⟩;refine qb (zn ?_);obtain⟨s,a⟩:=zb a;refine zm (ji rfl rfl s) (zg (vi (h+1)) (z8 ?_));exact⟨dkt,k,jm,(n,h+1),Nat.lt_succ_self _,⟨rfl,trivial⟩,prm,a,trivial⟩
 refine jg ?_;exact⟨dkt,j,jm,(),trivial,prm,(Option.some.inj a).symm,trivial⟩;rintro C z E t ⟨rfl,_⟩;replace c:=z0v c;refine zl (zi (.bool true) (z8 (qm ?_)));obtain rfl:=Option.some.inj c;refine qa (D:=[]) (J:=[]) (rs:=[.tmp 4]) (vs:=[(.bool true)]) t rfl rfl ⟨rfl,trivial⟩ ?_;exact⟨rfl,rfl⟩
theorem q25:Enters prog 111:=enters_of func111 rfl (by kernel_rfl)
theorem zdu{N:Nat}{R:RH}{p0_:Mach}{h:Value}(l:PRep (jv false false) R h p0_):zs9 prog 109 [h] R (fun(x:(List Int)) vs R=> ∃ u0,vs=[u0]∧VRep (tSl false (qf .i64)) R u0 x) (fun σ B s=>z4a N p0_ σ B s):=by
 intro yv σ B I R1 O s0 Y r t Z a hy;refine z5d (args:=[yv,h]) func109 rfl rfl fun A=>?_;dsimp only at a;rw [z4a] at a;refine zl (j6 rfl yu ug rfl (l.mono r) fun v1 h2=>?_);refine qh rfl z1n rfl h2 fun v3 h4=>?_;refine zm (qo rfl underlying28 rfl (j5 h4)) ?_;obtain⟨H,a⟩:=zb a
 refine z6u (T:=(qf .i64)) (m:=(↑p0_.rows.length:Int).toNat) (c:=(↑p0_.rows.length:Int).toNat) rfl underlying32 zo3 (zf rfl H.1) (zf rfl H.1) (Nat.le_refl _) (zdm H) (zdi H) fun K f6 y h8=>?_;refine zi K (z8 (zw (fq (i:=0) rfl h8 fun L d M=>?_)))
 have P:VRep (tSl true (qf .i64)) L K (mk (↑p0_.rows.length:Int) (0:Int)):=(z3i M (y.trans List.length_replicate.symm))
 refine je (γ:=Nat×σ×((List Int))×(List Frag)×Value) (rs [3,5,9,19]) (fun g=>[(3,g.2.2.2.2)]) (fun g=>[]++(g.2.2.2.1++A)) (fun g R=>oh N σ B p0_ g.1 g.2.1 g.2.2.1=some Y∧I g.2.1 R g.2.2.2.1∧VRep (tSl true (qf .i64)) R g.2.2.2.2 g.2.2.1∧True) (fun g=>g.1) (N,s0,(mk (↑p0_.rows.length:Int) (0:Int)),O,K) prm ⟨a,(t _ _ _ _ d Z),P,trivial⟩ ?_
 clear a;rintro⟨q,z,C,E,k⟩ ae af j ⟨a,F,u,_⟩;rcases q with _|q;exact qw a;replace a:oh N σ B p0_ (q+1) z C=some Y:=a;rw [oh] at a;refine zt (zl (zg yv (zg k ?_)));obtain⟨w,Q,a⟩:=zq a
 refine zgc (vs:=[k]) (J:=[]) (Oc:=E) (A:=A) rfl rfl rfl rfl (hy C z w.1 w.2 _ _ [k] (d.trans j) ⟨k,rfl,(Sub.v (B:=(tSl false (qf .i64))) (ut Sub.refl (fun _=>rfl)) u)⟩ F Q) fun ag n b o=>?_;refine z8 (zu rfl a (fun a=>?_) (fun a=>?_))
 refine qb (zw (zl (qh rfl z0w rfl (l.mono (((r.trans d).trans j).trans b)) fun ah S=>?_)));refine zg k ?_;obtain⟨U,V,a⟩:=zq a;refine jf rfl q2b rfl (zeg S (Sub.v (B:=(tSl false (qf .i64))) (ut Sub.refl (fun _=>rfl)) (u.mono b)) V) fun p ai e G=>?_
 refine zi p (z8 (zt (zl (zg k (zg p ?_)))));obtain⟨aj,W,a⟩:=zq a;refine jf rfl q25 rfl (ze2 (Sub.v (B:=(tSl false (qf .i64))) (ut Sub.refl (fun _=>rfl)) (u.mono (b.trans e))) (Sub.v (B:=(tSl false (qf .i64))) (ut Sub.refl (fun _=>rfl)) G) W) fun ak al f X=>?_;obtain rfl:=X
 refine z8 (zu rfl a (fun a=>?_) (fun a=>?_));refine qm ?_;obtain rfl:=Option.some.inj a;refine z3e (D:=[]) (J:=[]) (O':=n) (rs:=[]) (vs:=[]) ((((d.trans j).trans b).trans e).trans f) (List.Perm.refl _) rfl trivial ?_;exact(t _ _ _ _ (e.trans f) o);refine qb (zn (zg p (zi p (z8 ?_))))
 exact⟨dkt,((b.trans e).trans f),jm,(q,w.2,U,n,p),Nat.lt_succ_self _,⟨rfl,trivial⟩,prm,a,(t _ _ _ _ (e.trans f) o),(G.mono f),trivial⟩;refine jg ?_;show zer _ _ _ _ _ .ret _ [] _ _;obtain rfl:=Option.some.inj a
 refine z3e (D:=[]) (J:=[]) (O':=n) (rs:=[]) (vs:=[]) ((d.trans j).trans b) (List.Perm.refl _) rfl trivial ?_;exact o
theorem q2u:Enters prog 109:=enters_of func109 rfl (by kernel_rfl)
theorem zar: ∀ w,(isAgg 32).run prog w= .ok false w:=fun w=>by kernel_rfl
theorem zfg{N:Nat}{R:RH}{m:Mach}{F:Value}(o:VRep (jv false false) R F m){r:(List Int)×Int×Int}(a:z2q N m=some r):CallP prog 93 #[F] R (fun v R'=> ∃ u0,v= .tuple #[u0,(vi r.2.1),(vi r.2.2)]∧VRep (tSl false (qf .i64)) R' u0 r.1):=by
 refine qd (args:=[F]) func93 rfl rfl fun A=>?_;rw [z2q] at a;refine zl (kz (T:=(jv false false)) rfl rfl rfl o fun v1 R3 k h5 h2=>?_);refine kw rfl q3c fun t=>?_;refine kw rfl za3 fun u=>?_;refine zi (vi 0) (z8 (zt (zl (zm (ky z0w rfl rfl h5 (o.mono k)) ?_))))
 obtain⟨p,X,a⟩:=zq a;refine jf rfl zyi rfl (z4b (o.mono k) X) fun ar au d Y=>?_;obtain rfl:=Y;refine zi (vi p) (qy (zg (vi p) (zm (ww rfl rfl) (z8 (zu rfl a (fun a=>?_) (fun a=>?_))))))
 refine zl (zg (vi p) (jy (i:=1) (vs:=[vs0]) zts rfl rfl rfl rfl rfl rfl (qc rfl kg) ?_));refine jy (i:=0) (vs:=[(vi 0)]) sz3 rfl rfl rfl rfl rfl rfl (qc rfl kg) ?_;refine zi (vi p) (z8 (qm ?_));obtain rfl:=Option.some.inj a
 refine qa (D:=[]) (J:=[box u [(vi 0)] 3,box t [vs0] 32]) (rs:=[.cell 2 32,.cell 3 3,.tmp 4]) (vs:=[vs0,(vi 0),(vi p)]) (k.trans d) rfl rfl ⟨⟨_,rfl,fun w G=>zd4 (i:=1) G rfl rfl zar  ⟩,⟨_,rfl,fun w G=>zd4 (i:=0) G rfl rfl ag3  ⟩,rfl,trivial⟩ ?_;exact⟨rfl,⟨vs0,rfl,z4s⟩⟩
 refine qb (zl (jy (i:=0) (vs:=[(vi (-1))]) sz3 rfl rfl rfl rfl rfl rfl (qc rfl kg) ?_));refine z8 (zt (zl (zm (ky z0w rfl rfl (h5.mono d) (o.mono (k.trans d))) ?_)));obtain⟨av,Z,a⟩:=zq a;refine jf rfl q42 rfl (zgn (o.mono (k.trans d)) Z) fun aw ax M aa=>?_
 obtain⟨ay,rfl,ab⟩:=aa;refine z8 (zw ?_);obtain⟨g,ac,a⟩:=zq a
 refine zjf (Oc:=[box u [(vi (-1))] 3,box t [vs0] 32]) (Or:=A) _ (fun(s:(List Int)×Int) R O=> ∃ (n:Value),(∃ J,O.Perm (J++[box t [n] 32,box u [(vi s.2)] 3]))∧VRep (tSl false (qf .i64)) R n s.1∧True) (fun(s:(List Int)×Int) (c:Code) R O=>False) _ _ rfl q2u (zdu (N:=N) ab) (List.Perm.refl _) (by decide) (by rintro _ _ _ ⟨_,rfl,_⟩;rfl) (by rintro s R2 R3 O2 j ⟨n,P,Q,_⟩;exact⟨n,P,Q.mono j,trivial⟩) (fun _ _ _ _ _ _ h=>h) (fun _ _ _ _ _ h=>h.elim) ⟨vs0,⟨[],(pk 1 rfl (pk 0 rfl (List.Perm.refl _)))⟩,z4s,trivial⟩ ac ?_ ?_ ?_
 rintro az H aA aB ai aC aj ak al S ⟨n,⟨_,P⟩,Q,_⟩ z aD;have x:=z;clear z;(try dsimp only at x);refine zfl (zj8 P) ?_;obtain⟨q,rfl,I⟩:=S;refine zn (zi q (z8 ?_));refine⟨rfl,rfl,(RH.le.refl _),[box t [n] 32,box u [(vi H.2)] 3],List.Perm.refl _,fun aE=>?_⟩
 refine zw (zl (zg q (jy (i:=0) (vs:=[q]) zts rfl rfl (z2d I) rfl rfl rfl (qc (z4t I) kg) ?_)));refine z8 (zn (zm (qj (i:=1) ag3 rfl rfl rfl) ?_));obtain⟨ad,x⟩:=zb x;refine zm (ji rfl rfl ad) (jy (i:=1) (vs:=[(vi (H.2+1))]) sz3 rfl rfl rfl rfl rfl rfl (qc rfl kg) ?_)
 refine z8 ?_;obtain⟨rfl,rfl⟩:=Prod.mk.inj (Option.some.inj x);exact⟨rfl,(RH.le.refl _),[box t [q] 32,box u [(vi (H.2+1))] 3],List.Perm.refl _,rfl,⟨q,⟨[],List.Perm.refl _⟩,I,trivial⟩⟩;rintro aF aG am U ⟨f,⟨_,P⟩,K,_⟩;refine⟨_,_,P,?_⟩
 refine zt (zs2 [2,3] [(fun es=>phX f),(fun es=>phX (vi g.2)),(fun es=>(fun _ _=>True)),(fun es=>(fun _ _=>True)),(fun es=>phX (vi 0))] (fun fl es R O=>(fl=[false,false]∧O.Perm ([box t [f] 32,box u [(vi g.2)] 3]++A)∧True)∨(fl=[true,false]∧O.Perm ([box t [f] 32,box u [(vi g.2)] 3]++A)∧True)∨(fl=[true,true]∧O.Perm ([box t [f] 32,box u [(vi g.2)] 3]++A)∧True)) mixed (by kernel_rfl) ⟨(iq zo),(iq zo),(fun _ _ _ _ _ h=>h),(fun _ _ _ _ _ h=>h),(iq zo),trivial⟩ (by rintro fl es R R' O j (⟨rfl,b,_⟩|⟨rfl,b,_⟩|⟨rfl,b,_⟩);exact(.inl ⟨rfl,b,trivial⟩);exact(.inr (.inl ⟨rfl,b,trivial⟩));exact(.inr (.inr ⟨rfl,b,trivial⟩))) ⟨(fun _ _ _ _ _ h=>h),(fun _ _ _ _ _ h=>h),(fun _ _ _ _ _ h=>h),(fun _ _ _ _ _ h=>h),(fun _ _ _ _ _ h=>h),trivial⟩ (fun es=> .inl ⟨rfl,(List.Perm.refl _),trivial⟩) ⟨?_,?_,?_,?_,?_,trivial⟩ fun aH B=>?_)
 intro l aI fl O j y L C E;rcases E with⟨rfl,b,_⟩|⟨rfl,b,_⟩|⟨rfl,b,_⟩;exact zg6 b (zz (qj (i:=0) zar (y 2 rfl) rfl rfl));exact zcp C (by kernel_rfl);exact zcp C (by kernel_rfl);intro l aJ fl O j y L C E;rcases E with⟨rfl,b,_⟩|⟨rfl,b,_⟩|⟨rfl,b,_⟩;exact zg6 b (zz (qj (i:=1) ag3 (y 3 rfl) rfl rfl))
 exact zg6 b (zz (qj (i:=1) ag3 (y 3 rfl) rfl rfl));exact zcp C (by kernel_rfl);intro l aK fl O j y L C V E;obtain⟨W,d1,d2,_⟩:=L;rcases E with⟨rfl,b,_⟩|⟨rfl,b,_⟩|⟨rfl,b,_⟩;refine z4l b ?_
 refine Eff.mono (z3u (i:=0) (vs:=[f]) zts (y 2 rfl) (W rfl) (z2d K) rfl rfl (Nat.le_of_ble_eq_true rfl) (qc (z4t K) kg)) ?_;rintro v R' O' hle' ⟨_,rfl,rfl⟩;exact⟨trivial,.inr (.inl ⟨rfl,(List.Perm.refl _),trivial⟩)⟩;cases V;cases V;intro l aL fl O j y L C V E;obtain⟨W,d1,d2,d3,d4,_⟩:=L
 rcases E with⟨rfl,b,_⟩|⟨rfl,b,_⟩|⟨rfl,b,_⟩;exact zcp C (by kernel_rfl);refine z4l b ?_;refine Eff.mono (z3u (i:=1) (vs:=[(vi g.2)]) sz3 (y 3 rfl) (W rfl) rfl rfl rfl (Nat.le_of_ble_eq_true rfl) (qc rfl kg)) ?_;rintro v R' O' hle' ⟨_,rfl,rfl⟩;exact⟨trivial,.inr (.inr ⟨rfl,(List.Perm.refl _),trivial⟩)⟩;cases V
 intro l aO fl O j y L C E;obtain⟨W,d1,d2,d3,d4,_⟩:=L;exact zz (mh rfl);intro aP aQ aR ae af ag;rintro ap (⟨e,_⟩|⟨e,_⟩|⟨_,b,_⟩);cases e;cases e;refine⟨[],_,b,?_⟩;obtain rfl:=Eq.symm ae;obtain rfl:=Eq.symm af;obtain rfl:=Eq.symm ag;refine z8 (qm ?_);obtain rfl:=Option.some.inj a
 refine qa (D:=[]) (J:=[box t [f] 32,box u [(vi g.2)] 3]) (rs:=[.cell 2 32,.cell 3 3,.tmp 4]) (vs:=[f,(vi g.2),(vi 0)]) ((((k.trans d).trans M).trans U).trans B) rfl rfl ⟨⟨_,rfl,fun w G=>zd4 (i:=0) G rfl rfl zar  ⟩,⟨_,rfl,fun w G=>zd4 (i:=1) G rfl rfl ag3  ⟩,rfl,trivial⟩ ?_
 exact⟨rfl,⟨f,rfl,(K.mono B)⟩⟩;exact fun _ _ _ _ _ h=>h.elim
theorem q5l:Enters prog 93:=enters_of func93 rfl (by kernel_rfl)
theorem zfx{N:Nat}{R:RH}{x:(List Int)}{d:Value}(h:VRep (tSl false (qf .i64)) R d x){r:Int}(b:slices_Max_int N x=some r):CallP prog 94 #[d] R (fun v R'=>v=(vi r)):=by
 refine qd (args:=[d]) func94 rfl rfl fun A=>?_;rw [slices_Max_int] at b;refine zl (zi (vi 0) (z8 (zt (zl (zg d (zm (qo rfl underlying32 rfl (j5 h)) (zm (j4 rfl rfl) (z8 (zu rfl b (fun b=>?_) (fun b=>?_))))))))));exact qw b;refine qb (zl (zg d ?_));obtain⟨q,b⟩:=zb b
 refine kv (i:=(0:Int).toNat) rfl ig rfl (j5 h) (zf rfl q.1) (zx q) fun C s=>?_;refine qh rfl ty3 rfl s fun E t=>?_;obtain rfl:=jb.1 t;refine zi (vi (ix x 0)) (z8 ?_);obtain⟨k,a,b⟩:=zq b
 refine qx (γ:=Int) (rs [3,5,12,24]) (fun g=>[(3,(vi g))]) (fun g=>[]++A) (fun g R=>k=g∧True) ?_ ?_
 refine zl (zi (vi 1) (z8 (zw (je (γ:=Nat×Int×Int) (rs [3,5,12,24]) (fun g=>[(3,(vi g.2.1)),(4,(vi g.2.2))]) (fun g=>[]++A) (fun g R=>ma N x g.1 g.2.1 g.2.2=some k∧True) (fun g=>g.1) (N,(ix x 0),1) prm ⟨a,trivial⟩ ?_))));clear a;rintro⟨j,e,c⟩ u w f ⟨a,_⟩;rcases j with _|j
 exact qw a;replace a:ma N x (j+1) e c=some k:=a;rw [ma] at a;refine zt (zl (zg (vi c) (zg d (zm (qo rfl underlying32 rfl (j5 (h.mono f))) (zm (j4 rfl rfl) (z8 (zu rfl a (fun a=>?_) (fun a=>?_))))))))
 refine qb (zt (zw (zn (zg (vi e) (zg d (zg (vi c) ?_))))));obtain⟨l,a⟩:=zb a;refine kv (i:=c.toNat) rfl ig rfl (j5 (h.mono f)) (zf rfl l.1) (zx l) fun y m=>?_;refine qh rfl ty3 rfl m fun z n=>?_;obtain rfl:=jb.1 n
 refine zm (znb rfl underlying3 rfl rfl) (zi (vi (max e (ix x c))) (z8 (zn (zg (vi c) ?_))));obtain⟨o,a⟩:=zb a;refine zm (ji rfl rfl o) (zi (vi (c+1)) (z8 ?_));exact⟨dkt,(RH.le.refl _),jm,(j,max e (ix x c),c+1),Nat.lt_succ_self _,⟨rfl,rfl,trivial⟩,prm,a,trivial⟩;refine jg ?_
 exact⟨dkt,f,jm,e,⟨rfl,trivial⟩,prm,(Option.some.inj a).symm,trivial⟩;rintro k B F p ⟨rfl,_⟩;refine zl (zg (vi k) (zi (vi k) (z8 (qm ?_))));obtain rfl:=Option.some.inj b;refine qa (D:=[]) (J:=[]) (rs:=[.tmp 2]) (vs:=[(vi k)]) p rfl rfl ⟨rfl,trivial⟩ ?_;exact⟨rfl,rfl⟩
theorem q5c:Enters prog 94:=enters_of func94 rfl (by kernel_rfl)
theorem zdh{N:Nat}{R:RH}{p0_:Mach}{b:Value}(d:PRep (jv false false) R b p0_){r:Bool}(a:z18 N p0_=some r):CallP prog 92 #[b] R (fun v R'=>v=(.bool r)):=by
 refine qd (args:=[b]) func92 rfl rfl fun A=>?_;rw [z18] at a;refine zl (zi (.bool false) (qy (qh rfl z0w rfl d fun s m=>?_)));obtain⟨e,n,a⟩:=zq a;refine jf rfl q5l rfl (zfg m n) fun t u i o=>?_;obtain⟨h,rfl,f⟩:=o
 refine zg (.tuple #[h,(vi e.2.1),(vi e.2.2)]) (zm (jr rfl rfl) (zm (jr rfl rfl) (zm (jr rfl rfl) (zi h (zi (vi e.2.1) (zi (vi e.2.2) (qy (zg h ?_))))))));obtain⟨g,j,a⟩:=zq a;refine jf rfl q5c rfl (zfx f j) fun p q c k=>?_;obtain rfl:=k
 refine zg h (zm (qo rfl underlying32 rfl (j5 (f.mono c))) ?_);obtain⟨l,a⟩:=zb a;refine zm (z5u rfl rfl l) (zm (yw rfl rfl) (zi (.bool (decide (g=((↑e.1.length:Int)-1)))) (z8 (qm ?_))));obtain rfl:=Option.some.inj a
 refine qa (D:=[]) (J:=[]) (rs:=[.tmp 1]) (vs:=[(.bool (decide (g=((↑e.1.length:Int)-1))))]) (i.trans c) rfl rfl ⟨rfl,trivial⟩ ?_;exact⟨rfl,rfl⟩
theorem q4x:Enters prog 92:=enters_of func92 rfl (by kernel_rfl)
theorem zdq{N:Nat}{R:RH}{m:Mach}{o:Value}(k:VRep (jv false false) R o m){r:Int}(a:z1v N m=some r):CallP prog 56 #[o] R (fun v R'=>v=(vi r)):=by
 refine qd (args:=[o]) func56 rfl rfl fun A=>?_;rw [z1v] at a;refine zl (kz (T:=(jv false false)) rfl rfl rfl k fun v1 R3 e P h2=>?_);refine zi (vi 0) (z8 (zt (zl (zm (ky z0w rfl rfl P (k.mono e)) ?_))));obtain⟨y,Q,a⟩:=zq a
 refine jf rfl zyi rfl (z4b (k.mono e) Q) fun v8 S b U=>?_;obtain rfl:=U;refine zi (vi y) (qy (zg (vi y) (zm (ww rfl rfl) (z8 (zu rfl a (fun a=>?_) (fun a=>?_))))));refine zl (zg (vi y) (zi (vi y) (z8 (qm ?_))));obtain rfl:=Option.some.inj a
 refine qa (D:=[]) (J:=[]) (rs:=[.tmp 2]) (vs:=[(vi y)]) (e.trans b) rfl rfl ⟨rfl,trivial⟩ ?_;exact⟨rfl,rfl⟩;refine qb (zt (zl (zm (ky z0w rfl rfl (P.mono b) (k.mono (e.trans b))) ?_)));obtain⟨V,B,a⟩:=zq a;refine jf rfl q5u rfl (zfh (k.mono (e.trans b)) B) fun W X h C=>?_
 obtain⟨c,f,g,rfl,E,F,G⟩:=C;refine zg (vi 0) (z8 (zw (zuj 8 ?_)));refine z98 ?_;refine zl (zm (j4 rfl rfl) (z8 (zt ?_)));refine zfj rfl (fun p=>?_) (fun p=>absurd p (by decide));clear p
 refine qb (zt (zw (zl (zm (zg3 (v:=(.agg #[(vi 9),(.func (.func 88) #[] #[c]),(vi 11),(.func (.func 90) #[] #[f]),(vi 12),(.func (.func 92) #[] #[g])])) (i:=(vi 0)) (u:=(.agg #[(vi 9),(.func (.func 88) #[] #[c])])) rfl rfl (fun w=>by kernel_rfl)) (kw rfl zwt fun l=>?_)))))
 refine jy (i:=0) (vs:=[(vi 9),(.func (.func 88) #[] #[c])]) zwm rfl rfl rfl rfl rfl rfl (qc rfl (qc rfl kg)) ?_;refine qy (zm (qi zm9 rfl) (zm (qj (i:=0) q13 rfl rfl rfl) ?_));obtain⟨Y,H,a⟩:=zq a;refine zhq (cs:=[c]) (vs:=[]) rfl q58 rfl rfl (zde E H) fun Z aa d I=>?_
 obtain rfl:=I;refine zm (rf rfl) (z8 (zu rfl a (fun a=>?_) (fun a=>?_)));refine zl (zm (qi zlu rfl) (zm (qj (i:=0) q1e rfl rfl rfl) (zi (vi 9) (z8 (qm ?_)))));obtain rfl:=Option.some.inj a
 refine qa (D:=[]) (J:=[box l [(vi 9),(.func (.func 88) #[] #[c])] 121]) (rs:=[.tmp 2]) (vs:=[(vi 9)]) (((e.trans b).trans h).trans d) rfl rfl ⟨rfl,trivial⟩ ?_;exact⟨rfl,rfl⟩;refine qb (zn (zm (ji rfl rfl (by decide)) (zg (vi 1) (z8 (z98 ?_)))));refine zl (zm (j4 rfl rfl) (z8 (zt ?_)))
 refine zfj rfl (fun q=>?_) (fun q=>absurd q (by decide));clear q
 refine qb (zt (zw (zl (zm (zg3 (v:=(.agg #[(vi 9),(.func (.func 88) #[] #[c]),(vi 11),(.func (.func 90) #[] #[f]),(vi 12),(.func (.func 92) #[] #[g])])) (i:=(vi 1)) (u:=(.agg #[(vi 11),(.func (.func 90) #[] #[f])])) rfl rfl (fun w=>by kernel_rfl)) (kw rfl zwt fun s=>?_)))))
 refine jy (i:=0) (vs:=[(vi 11),(.func (.func 90) #[] #[f])]) zwm rfl rfl rfl rfl rfl rfl (qc rfl (qc rfl kg)) ?_;refine qy (zm (qi zm9 rfl) (zm (qj (i:=0) q13 rfl rfl rfl) ?_));obtain⟨ab,K,a⟩:=zq a
 refine zhq (cs:=[f]) (vs:=[]) rfl q4p rfl rfl (zdb (F.mono d) K) fun ac ad j L=>?_;obtain rfl:=L;refine zm (rf rfl) (z8 (zu rfl a (fun a=>?_) (fun a=>?_)));refine zl (zm (qi zlu rfl) (zm (qj (i:=0) q1e rfl rfl rfl) (zi (vi 11) (z8 (qm ?_)))));obtain rfl:=Option.some.inj a
 refine qa (D:=[]) (J:=[box s [(vi 11),(.func (.func 90) #[] #[f])] 121,box l [(vi 9),(.func (.func 88) #[] #[c])] 121]) (rs:=[.tmp 2]) (vs:=[(vi 11)]) ((((e.trans b).trans h).trans d).trans j) rfl rfl ⟨rfl,trivial⟩ ?_;exact⟨rfl,rfl⟩
 refine qb (zn (zm (ji rfl rfl (by decide)) (zg (vi 2) (z8 (z98 ?_)))));refine zl (zm (j4 rfl rfl) (z8 (zt ?_)));refine zfj rfl (fun t=>?_) (fun t=>absurd t (by decide));clear t
 refine qb (zt (zw (zl (zm (zg3 (v:=(.agg #[(vi 9),(.func (.func 88) #[] #[c]),(vi 11),(.func (.func 90) #[] #[f]),(vi 12),(.func (.func 92) #[] #[g])])) (i:=(vi 2)) (u:=(.agg #[(vi 12),(.func (.func 92) #[] #[g])])) rfl rfl (fun w=>by kernel_rfl)) (kw rfl zwt fun z=>?_)))))
 refine jy (i:=0) (vs:=[(vi 12),(.func (.func 92) #[] #[g])]) zwm rfl rfl rfl rfl rfl rfl (qc rfl (qc rfl kg)) ?_;refine qy (zm (qi zm9 rfl) (zm (qj (i:=0) q13 rfl rfl rfl) ?_));obtain⟨ae,M,a⟩:=zq a
 refine zhq (cs:=[g]) (vs:=[]) rfl q4x rfl rfl (zdh (G.mono (d.trans j)) M) fun af ag n O=>?_;obtain rfl:=O;refine zm (rf rfl) (z8 (zu rfl a (fun a=>?_) (fun a=>?_)));refine zl (zm (qi zlu rfl) (zm (qj (i:=0) q1e rfl rfl rfl) (zi (vi 12) (z8 (qm ?_)))))
 obtain rfl:=Option.some.inj a;refine qa (D:=[]) (J:=[box z [(vi 12),(.func (.func 92) #[] #[g])] 121,box s [(vi 11),(.func (.func 90) #[] #[f])] 121,box l [(vi 9),(.func (.func 88) #[] #[c])] 121]) (rs:=[.tmp 2]) (vs:=[(vi 12)]) (((((e.trans b).trans h).trans d).trans j).trans n) rfl rfl ⟨rfl,trivial⟩ ?_
 exact⟨rfl,rfl⟩;refine qb (zn (zm (ji rfl rfl (by decide)) (zg (vi 3) (z8 (z98 ?_)))));refine zl (zm (j4 rfl rfl) (z8 (zt (zfj rfl (fun x=>absurd x (by decide)) (fun x=>?_)))));clear x;refine jg ?_;refine zl (zi (vi 0) (z8 (qm ?_)));obtain rfl:=Option.some.inj a
 refine qa (D:=[]) (J:=[box z [(vi 12),(.func (.func 92) #[] #[g])] 121,box s [(vi 11),(.func (.func 90) #[] #[f])] 121,box l [(vi 9),(.func (.func 88) #[] #[c])] 121]) (rs:=[.tmp 2]) (vs:=[(vi 0)]) (((((e.trans b).trans h).trans d).trans j).trans n) rfl rfl ⟨rfl,trivial⟩ ?_;exact⟨rfl,rfl⟩
theorem q55:Enters prog 56:=enters_of func56 rfl (by kernel_rfl)
theorem z5o{N:Nat}{R:RH}{m:Mach}{d:Value}(e:VRep (jv false false) R d m){r:Int}(a:z09 N m=some r):CallP prog 31 #[d] R (fun v R'=>v=(vi r)):=by
 refine qd (args:=[d]) func31 rfl rfl fun A=>?_;rw [z09] at a;refine zl (kz (T:=(jv false false)) rfl rfl rfl e fun q s c i j=>?_);refine zi (vi 0) (z8 (zt (zl (zm (ky z0w rfl rfl i (e.mono c)) ?_))));obtain⟨f,k,a⟩:=zq a
 refine jf rfl q55 rfl (zdq (e.mono c) k) fun t l b n=>?_;obtain rfl:=n;refine zi (vi f) (qy (zg (vi f) (zm (ww rfl rfl) (z8 (zu rfl a (fun a=>?_) (fun a=>?_))))));refine zl (zg (vi f) (zi (vi f) (z8 (qm ?_))));obtain rfl:=Option.some.inj a
 refine qa (D:=[]) (J:=[]) (rs:=[.tmp 2]) (vs:=[(vi f)]) (c.trans b) rfl rfl ⟨rfl,trivial⟩ ?_;exact⟨rfl,rfl⟩;refine qb (zt (zl (j6 rfl yu ug rfl (j.mono b) fun o g=>?_)));refine qh rfl z1n rfl g fun p h=>?_
 refine zm (qo rfl underlying28 rfl (j5 h)) (zm (z2l rfl rfl) (z8 (zu rfl a (fun a=>?_) (fun a=>?_))));refine zl (zi (vi 3) (z8 (qm ?_)));obtain rfl:=Option.some.inj a;refine qa (D:=[]) (J:=[]) (rs:=[.tmp 2]) (vs:=[(vi 3)]) (c.trans b) rfl rfl ⟨rfl,trivial⟩ ?_;exact⟨rfl,rfl⟩
 refine qb (zl (zi (vi 0) (z8 (qm ?_))));obtain rfl:=Option.some.inj a;refine qa (D:=[]) (J:=[]) (rs:=[.tmp 2]) (vs:=[(vi 0)]) (c.trans b) rfl rfl ⟨rfl,trivial⟩ ?_;exact⟨rfl,rfl⟩
theorem zyv:Enters prog 31:=enters_of func31 rfl (by kernel_rfl)
theorem zxf: ∀ w,∃ z,(zeroValue 92).run prog w= .ok z w∧z.cells=((j3 (ah 6 (List.replicate 6 (0:Int))))).toArray:=fun w=>⟨(.agg #[(.int .u16 0),(.int .u16 0),(.int .u16 0),(.int .u16 0),(.int .u16 0),(.int .u16 0)]),by kernel_rfl,by kernel_rfl⟩
theorem zq4:ArrOk prog 92 6 1:=zbw (e:=71) underlying92 (fun w=>by kernel_rfl)
theorem zxk: ∀ w,(sizeOf 71).run prog w= .ok 1 w:=fun w=>by kernel_rfl
theorem zfk: ∀ w,(isAgg 92).run prog w= .ok true w:=fun w=>by kernel_rfl
theorem z9l: ∀ w,(sizeOf 92).run prog w= .ok 6 w:=fun w=>by kernel_rfl
theorem zj3{N:Nat}{R:RH}{n:Int}{r:(Arr 6 Int)}(c:zbc N n=some r):CallP prog 58 #[(vi n)] R (fun v R'=>v=(jc r)):=by
 refine qd (args:=[(vi n)]) func58 rfl rfl fun A=>?_;rw [zbc] at c;refine zl (kw rfl zxf fun l=>?_);refine z8 ?_;obtain⟨d,a,c⟩:=zq c;refine qx (γ:=((Arr 6 Int))) (rs [3,18]) (fun g=>[]) (fun g=>[box l (j3 g) 92]++A) (fun g R=>d=g∧True) ?_ ?_
 refine zl (zg (vi n) (zg (vi 0) (z8 (zw (je (γ:=Nat×Int×((Arr 6 Int))) (rs [3,4,5,18]) (fun g=>[(5,(vi g.2.1))]) (fun g=>[box l (j3 g.2.2) 92]++A) (fun g R=>z2n N n g.1 g.2.1 g.2.2=some d∧True) (fun g=>g.1) (N,0,(ah 6 (List.replicate 6 (0:Int)))) prm ⟨a,trivial⟩ ?_)))));clear a
 rintro⟨k,b,f⟩ y E h ⟨a,_⟩;rcases k with _|k;exact qw a;replace a:z2n N n (k+1) b f=some d:=a;rw [z2n] at a;refine zl (zm (j4 rfl rfl) (z8 (zt (zu rfl a (fun a=>?_) (fun a=>?_)))))
 refine qb (zt (zw (zl (zg (vi b) (zi (vi b) (z8 (zn (zg (vi b) (zg (vi b) (zm (zdn underlying3 underlying71 rfl) ?_))))))))));obtain⟨m,a⟩:=zb a;refine zm (z6v rfl rfl m) (zg (vi n) ?_);obtain⟨p,a⟩:=zb a
 refine zm (z6v rfl rfl p) (zm (zib rfl rfl) ?_);obtain⟨s,a⟩:=zb a;refine zm (zew rfl rfl s) ?_;obtain⟨e,a⟩:=zb a
 refine zm (lm (i:=b.toNat) zq4 rfl (zf rfl e.1) (Nat.lt_of_lt_of_eq (zx e) f.2)) (z6r (sz:=1) (cl:=(fun x:Int=>[Value.int .u16 x])) (z:=ior (z1q .u16 (IntKind.u16.wrap b) (8:Int)) (IntKind.u16.wrap ((z1q .u16 (1:Int) n)-1))) (vs:=[(.int .u16 (ior (z1q .u16 (IntKind.u16.wrap b) (8:Int)) (IntKind.u16.wrap ((z1q .u16 (1:Int) n)-1))))]) (q:=b) (i:=b.toNat) (o:=0) (j:=0) (X:=f) cells_int.len zxk rfl rfl (by omega) rfl (Nat.lt_of_lt_of_eq (zx e) f.2) rfl rfl rfl (qc rfl kg) rfl rfl ?_)
 refine z8 (zn ?_);obtain⟨t,a⟩:=zb a;refine zm (ji rfl rfl t) (zg (vi (b+1)) (z8 ?_));exact⟨dkt,(RH.le.refl _),jm,(k,b+1,(l8 f b (ior (z1q .u16 (IntKind.u16.wrap b) (8:Int)) (IntKind.u16.wrap ((z1q .u16 (1:Int) n)-1))))),Nat.lt_succ_self _,⟨rfl,trivial⟩,prm,a,trivial⟩;refine jg ?_
 exact⟨dkt,h,jm,f,trivial,prm,(Option.some.inj a).symm,trivial⟩;rintro d B F u ⟨rfl,_⟩;refine zl (zm (ng (j:=0) (v:=(jc d)) zfk z9l rfl rfl (co_A6tIntu16.len _) rfl) (ay (j:=0) (cs:=(j3 d)) (cs':=(j3 d)) z9l rfl rfl (co_A6tIntu16.len _) (co_A6tIntu16.len _) rfl rfl (z0d (z0z _)) ?_))
 refine z8 (qm ?_);obtain rfl:=Option.some.inj c;refine qa (D:=[]) (J:=[box l (j3 d) 92]) (rs:=[.cell 2 92]) (vs:=[(jc d)]) u rfl rfl ⟨⟨_,rfl,fun w C=>z6e (i:=0) C rfl zfk z9l (co_A6tIntu16.len _)⟩,trivial⟩ ?_;exact⟨rfl,rfl⟩
end GV
end Go.Proofs.Ytnnobdkjgafdmaa
