import Derived.Test.YtnnobdkjgafdmaaShWa
import Derived.Test.YtnnobdkjgafdmaaRows
set_option linter.unusedVariables false
set_option linter.unusedSimpArgs false
set_option linter.unusedSectionVars false
namespace Go.Proofs.Ytnnobdkjgafdmaa
namespace GV
open _root_.Go.Proofs.Try
open Go.IntWalk
set_option maxRecDepth 100000
set_option maxHeartbeats 20000000
theorem q83:Enters prog 87:=enters_of func87 rfl (by kernel_rfl)
theorem zdx{N:Nat}{R:RH}{x:Edge}{p0_:Mach}{a:Value}(c:PRep (jm false false) R a p0_){r:Bool}(b:z6w N x p0_=some r):CallP prog 86 #[(lh x),a] R (fun v R'=>v=(.bool r)):=by
 refine qd (args:=[(lh x),a]) func86 rfl rfl fun A=>?_;rw [z6w] at b;refine zi (zf6 (T:=kEdge) rfl rfl (si.2 rfl) fun n o d i=>?_);refine zh (.bool false) (qw (qh rfl z1b rfl (c.mono d) fun p j=>?_));refine qh rfl zeq rfl i fun q k=>?_;obtain rfl:=si.1 k
 obtain⟨h,f,b⟩:=zq b;refine jd rfl q83 rfl (zho j f) fun l m e g=>?_;obtain rfl:=g;refine zk (z0g rfl) (zh (.bool (!h)) (z8 (ql ?_)));obtain rfl:=Option.some.inj b;refine q8 (D:=[]) (J:=[]) (rs:=[.tmp 3]) (vs:=[(.bool (!h))]) (d.trans e) rfl rfl ⟨rfl,trivial⟩ ?_;exact⟨rfl,rfl⟩
theorem q8x:Enters prog 86:=enters_of func86 rfl (by kernel_rfl)
theorem z4n{N:Nat}{R:RH}{m:Mach}{q:Value}(F:VRep (jm false false) R q m){r:Int}(b:ru N m=some r):CallP prog 75 #[q] R (fun v R'=>v=(vi r)):=by
 refine qd (args:=[q]) func75 rfl rfl fun A=>?_;rw [ru] at b;refine zi (ky (T:=(jm false false)) rfl rfl rfl F fun E R3 k h5 l=>?_);refine zh (vi 0) (z8 (zw (zi (zy7 rfl (z4m z2j z3l rfl l) fun v6 h7=>?_))))
 refine jv rfl (rq (gq ty3 rfl h7)) (jv rfl (z6f rfl rfl) (jv (v:=(.bool (decide (16<m.inputs)))) rfl (ze rfl) (ji rfl rfl rfl rfl (fun c=>z4m zgc zcd rfl l) fun ak G=>?_)));refine ji rfl rfl rfl rfl (fun c=>qx (rq (gq ty3 rfl (G.1 (zo rfl c))))) fun al H=>?_
 refine ji rfl rfl rfl rfl (fun c=>qx (z6f (H.1 (zo rfl c)) rfl)) fun am I=>?_;refine jv rfl (au rfl rfl (fun n=>(I.1 (zo rfl n)))) (jv (v:=(.bool ((decide (16<m.inputs))||(decide (16<m.outputs))))) rfl (ze rfl) (ji rfl rfl rfl rfl (fun c=>z4m xe ui rfl l) fun an K=>?_))
 refine ji rfl rfl rfl rfl (fun c=>gq z3h rfl (K.1 (zo rfl c))) fun ao L=>?_;refine ji rfl rfl rfl rfl (fun c=>qx (qo rfl underlying28 rfl (ja (L.1 (zo rfl c))))) fun ap M=>?_;refine ji rfl rfl rfl rfl (fun c=>qx (z6f (M.1 (zo rfl c)) rfl)) fun aq O=>?_
 refine jv rfl (au rfl rfl (fun n=>(O.1 (zo rfl n)))) (z8 (zu rfl b (fun b=>?_) (fun b=>?_)));refine zi (zh (vi 3) (z8 (ql ?_)));obtain rfl:=Option.some.inj b;refine q8 (D:=[]) (J:=[]) (rs:=[.tmp 2]) (vs:=[(vi 3)]) k rfl rfl ⟨rfl,trivial⟩ ?_;exact⟨rfl,rfl⟩
 refine qa (zw (zi (zy7 rfl (z4m z2j z3l rfl l) fun ar P=>?_)));refine jv rfl (rq (gq ty3 rfl P)) (jv rfl (j3 rfl rfl) (jv (v:=(.bool (decide (m.inputs<1)))) rfl (ze rfl) (ji rfl rfl rfl rfl (fun c=>z4m zgc zcd rfl l) fun av Q=>?_)))
 refine ji rfl rfl rfl rfl (fun c=>qx (rq (gq ty3 rfl (Q.1 (zo rfl c))))) fun aw S=>?_;refine ji rfl rfl rfl rfl (fun c=>qx (j3 (S.1 (zo rfl c)) rfl)) fun ax U=>?_
 refine jv rfl (au rfl rfl (fun n=>(U.1 (zo rfl n)))) (jv (v:=(.bool ((decide (m.inputs<1))||(decide (m.outputs<1))))) rfl (ze rfl) (ji rfl rfl rfl rfl (fun c=>z4m xe ui rfl l) fun ay V=>?_));refine ji rfl rfl rfl rfl (fun c=>gq z3h rfl (V.1 (zo rfl c))) fun az W=>?_
 refine ji rfl rfl rfl rfl (fun c=>qx (qo rfl underlying28 rfl (ja (W.1 (zo rfl c))))) fun aA X=>?_;refine ji rfl rfl rfl rfl (fun c=>qx (j3 (X.1 (zo rfl c)) rfl)) fun aB Y=>?_;refine jv rfl (au rfl rfl (fun n=>(Y.1 (zo rfl n)))) (z8 (zu rfl b (fun b=>?_) (fun b=>?_)))
 refine zi (zh (vi 1) (z8 (ql ?_)));obtain rfl:=Option.some.inj b;refine q8 (D:=[]) (J:=[]) (rs:=[.tmp 2]) (vs:=[(vi 1)]) k rfl rfl ⟨rfl,trivial⟩ ?_;exact⟨rfl,rfl⟩;refine qa ?_;obtain⟨s,a,b⟩:=zq b;refine qm (γ:=Unit) (rs [2,3,4,5,33,51]) (fun g=>[]) (fun g=>[]++A) (fun g R=>s=Ex.go g∧True) ?_ ?_
 refine zi (je rfl xe ui rfl l fun aC Z=>?_);refine qh rfl z3h rfl Z fun aD t=>?_
 refine zk (qo rfl underlying28 rfl (ja t)) (zf (vi 0) (z8 (zx (jb (γ:=Nat×Int) (rs [2,3,4,5,36,51]) (fun g=>[(36,(vi g.2))]) (fun g=>[]++A) (fun g R=>ma N m g.1 g.2=some s∧True) (fun g=>g.1) (N,0) prm ⟨a,trivial⟩ ?_))));clear a;rintro⟨o,e⟩ ah aE d ⟨a,_⟩;rcases o with _|o
 exact qp a;replace a:ma N m (o+1) e=some s:=a;rw [ma] at a;refine zi (zk (j3 rfl rfl) (z8 (zw (zu rfl a (fun a=>?_) (fun a=>?_)))));refine qa (zw (zx (zi ?_)));obtain⟨u,a⟩:=zb a
 refine kg (i:=e.toNat) rfl zby rfl (ja (t.mono d)) (zg rfl u.1) (zy u) fun aF aa=>?_;refine qh rfl zbd rfl aa fun p w=>?_;refine zh p (qw (jv (v:=p) rfl (ze rfl) (jv rfl (qo rfl underlying58 rfl (ja w)) (zy7 rfl (z4m z2j z3l rfl (l.mono d)) fun aG ab=>?_))))
 refine jv rfl (rq (gq ty3 rfl ab)) (jv rfl (pg rfl rfl) (jv (v:=(.bool (decide ((↑(ix m.rows e).length:Int)≠m.inputs)))) rfl (ze rfl) (ji rfl rfl rfl rfl (fun c=>qx (v:=p) (ze rfl)) fun aH ac=>?_)))
 refine ji rfl rfl rfl rfl (fun c=>qx (v:=(.func (.func 86) #[] #[E])) (z0w (fs:=[]) (cs:=[E]) rfl rfl)) fun aI ad=>?_;obtain⟨ae,af,a⟩:=zq a
 refine z5v rfl rfl rfl rfl (fun c=>xk (vs:=[p,(.func (.func 86) #[] #[E])]) q91 (z9z (ac.1 (zo rfl c)) (z9z (ad.1 (zo rfl c)) rfl)) ((by have ag:=(z3w af (zo rfl c));exact z7a w (q0x (cs:=[E]) q8x fun R1 hq z0 u0 y k0 hy=>by obtain rfl:=si.1 k0;exact CallP.mono (zdx ((l.mono d).mono hq) hy) fun v R2 _ hv=>z0f.2 hv) ag)) (fun _ _ h=>h)) fun x z f j=>?_
 replace j:phG (true&&((decide ((↑(ix m.rows e).length:Int)≠m.inputs))==false)) (phX (.bool (ae.getD default))) x z:=j;refine jv rfl (au rfl rfl (fun n=>(j.1 (zo rfl n)))) (z8 (zu rfl a (fun a=>?_) (fun a=>?_)));refine zi (zh (vi 1) (z8 (ql ?_)));replace b:=z1i a b;obtain rfl:=Option.some.inj b
 refine q8 (D:=[]) (J:=[]) (rs:=[.tmp 2]) (vs:=[(vi 1)]) ((k.trans d).trans f) rfl rfl ⟨rfl,trivial⟩ ?_;exact⟨rfl,rfl⟩;refine qa (zn ?_);obtain⟨B,a⟩:=zb a;refine zk (jh rfl rfl B) (zf (vi (e+1)) (z8 ?_));exact⟨dkt,f,jl,(o,e+1),Nat.lt_succ_self _,⟨rfl,trivial⟩,prm,a,trivial⟩
 refine jk ?_;exact⟨dkt,d,jl,(),trivial,prm,(Option.some.inj a).symm,trivial⟩;rintro aN ai aO C ⟨rfl,_⟩;replace b:=z2x b;refine zi (zh (vi 0) (z8 (ql ?_)));obtain rfl:=Option.some.inj b;refine q8 (D:=[]) (J:=[]) (rs:=[.tmp 2]) (vs:=[(vi 0)]) (k.trans C) rfl rfl ⟨rfl,trivial⟩ ?_;exact⟨rfl,rfl⟩
theorem q29:Enters prog 75:=enters_of func75 rfl (by kernel_rfl)
theorem q5q: ∀ w,∃ z,(zeroValue 122).run prog w= .ok z w∧z.cells=([.int .i64 0,.nilFunc,.int .i64 0,.nilFunc,.int .i64 0,.nilFunc]:List Value).toArray:=fun w=>⟨(.agg #[(vi 0),.nilFunc,(vi 0),.nilFunc,(vi 0),.nilFunc]),by kernel_rfl,rfl⟩
theorem q2f: ∀ w,(sizeOf 122).run prog w= .ok 6 w:=fun w=>by kernel_rfl
theorem q59: ∀ w,(isAgg 122).run prog w= .ok true w:=fun w=>by kernel_rfl
theorem zfc{N:Nat}{R:RH}{m:Mach}{b:Value}(d:VRep (jm false false) R b m){r:Mach×Mach×Mach}(c:z81 N m=some r):CallP prog 76 #[b] R (fun v R'=> ∃ u0 g h,v= .agg #[(vi 9),.func (.func 88) #[] #[u0],(vi 11),.func (.func 90) #[] #[g],(vi 12),.func (.func 92) #[] #[h]]∧PRep (jm false false) R' u0 r.1∧PRep (jm false false) R' g r.2.1∧PRep (jm false false) R' h r.2.2):=by
 refine qd (args:=[b]) func76 rfl rfl fun A=>?_;rw [z81] at c;refine zi (ky (T:=(jm false false)) rfl rfl rfl d fun a l e n f=>?_);refine ko rfl q5q fun j=>?_
 refine qw (zk (z0w (fs:=[]) (cs:=[a]) rfl rfl) (zk (xm (ps:=[(0,(vi 9)),(1,(.func (.func 88) #[] #[a]))]) (v:=(.agg #[(vi 9),(.func (.func 88) #[] #[a])])) rfl (fun w=>by kernel_rfl)) (zk (z0w (fs:=[]) (cs:=[a]) rfl rfl) (zk (xm (ps:=[(0,(vi 11)),(1,(.func (.func 90) #[] #[a]))]) (v:=(.agg #[(vi 11),(.func (.func 90) #[] #[a])])) rfl (fun w=>by kernel_rfl)) (zk (z0w (fs:=[]) (cs:=[a]) rfl rfl) (zk (xm (ps:=[(0,(vi 12)),(1,(.func (.func 92) #[] #[a]))]) (v:=(.agg #[(vi 12),(.func (.func 92) #[] #[a])])) rfl (fun w=>by kernel_rfl)) (zk (xm (ps:=[(0,(.agg #[(vi 9),(.func (.func 88) #[] #[a])])),(1,(.agg #[(vi 11),(.func (.func 90) #[] #[a])])),(2,(.agg #[(vi 12),(.func (.func 92) #[] #[a])]))]) (v:=(.agg #[(vi 9),(.func (.func 88) #[] #[a]),(vi 11),(.func (.func 90) #[] #[a]),(vi 12),(.func (.func 92) #[] #[a])])) rfl (fun w=>by kernel_rfl)) (jr (i:=0) (vs:=[(vi 9),(.func (.func 88) #[] #[a]),(vi 11),(.func (.func 90) #[] #[a]),(vi 12),(.func (.func 92) #[] #[a])]) q2f rfl rfl rfl rfl rfl rfl (qc rfl (qc rfl (qc rfl (qc rfl (qc rfl (qc rfl jq)))))) ?_))))))))
 refine z8 (ql ?_);obtain rfl:=Option.some.inj c
 refine q8 (D:=[]) (J:=[box j [(vi 9),(.func (.func 88) #[] #[a]),(vi 11),(.func (.func 90) #[] #[a]),(vi 12),(.func (.func 92) #[] #[a])] 122]) (rs:=[.cell 2 122]) (vs:=[(.agg #[(vi 9),(.func (.func 88) #[] #[a]),(vi 11),(.func (.func 90) #[] #[a]),(vi 12),(.func (.func 92) #[] #[a])])]) e rfl rfl ⟨⟨_,rfl,fun w k=>z0e (i:=0) k rfl rfl q59 q2f rfl rfl⟩,trivial⟩ ?_
 exact⟨rfl,⟨a,a,a,rfl,f,f,f⟩⟩
theorem q86:Enters prog 76:=enters_of func76 rfl (by kernel_rfl)
theorem zyx: ∀ w,∃ z,(zeroValue 121).run prog w= .ok z w∧z.cells=([.int .i64 0,.nilFunc]:List Value).toArray:=fun w=>⟨(.agg #[(vi 0),.nilFunc]),by kernel_rfl,rfl⟩
theorem q07: ∀ w,(sizeOf 121).run prog w= .ok 2 w:=fun w=>by kernel_rfl
theorem znu:FieldOk prog 121 1 1:=by
 obtain⟨i,hi,a⟩: ∃ i,prog.info? 41=some i∧i.size=1:=u6 (by kernel_rfl);exact dn underlying121 rfl rfl hi (by rw [a];rfl)
theorem q4o: ∀ w,(isAgg 41).run prog w= .ok false w:=fun w=>by kernel_rfl
theorem q54: ∀ w,∃ z,(zeroValue 146).run prog w= .ok z w∧z.cells=([.slice none 0 0]:List Value).toArray:=fun w=>⟨vs0,by kernel_rfl,rfl⟩
theorem zgs{N:Nat}{R:RH}{m:Mach}{a:Value}(d:VRep (jm false false) R a m){r:Mach}(b:z5y N m=some r):CallP prog 106 #[a] R (fun v R'=> ∃ u0,v= .func (.func 112) #[] #[u0]∧PRep (jm false false) R' u0 r):=by
 refine qd (args:=[a]) func106 rfl rfl fun A=>?_;rw [z5y] at b;refine zi (ky (T:=(jm false false)) rfl rfl rfl d fun c g e h f=>?_);refine zh .nilFunc (qw (zk (z0w (fs:=[]) (cs:=[c]) rfl rfl) (zh (.func (.func 112) #[] #[c]) (z8 (ql ?_)))));obtain rfl:=Option.some.inj b
 refine q8 (D:=[]) (J:=[]) (rs:=[.tmp 2]) (vs:=[(.func (.func 112) #[] #[c])]) e rfl rfl ⟨rfl,trivial⟩ ?_;exact⟨rfl,⟨c,rfl,f⟩⟩
theorem q5m:Enters prog 106:=enters_of func106 rfl (by kernel_rfl)
theorem zel{N:Nat}{R:RH}{p0_:Mach}{e:Value}(r:PRep (jm false false) R e p0_):zxj prog 112 [e] R (fun(x:((Int×Int)×Edge)) vs R=>vs=[(zld x.1),(lh x.2)]) (fun σ B s=>z2w N p0_ σ B s):=by
 intro yv σ B I R1 O s0 Y C ab h0 c hy;refine z7p (args:=[yv,e]) func112 rfl rfl fun A=>?_;dsimp only at c;rw [z2w] at c;refine zi (je rfl xe ui rfl (r.mono C) fun v1 h2=>?_);refine qh rfl z3h rfl h2 fun v3 Z=>?_
 refine zk (qo rfl underlying28 rfl (ja Z)) (zf (vi 0) (z8 (zx (jb (γ:=Nat×σ×Int×(List Frag)) (rs [3,7,10,31]) (fun g=>[(10,(vi g.2.2.1))]) (fun g=>[]++(g.2.2.2++A)) (fun g R=>nu N σ B p0_ g.1 g.2.1 g.2.2.1=some Y∧I g.2.1 R g.2.2.2∧True) (fun g=>g.1) (N,s0,0,O) prm ⟨c,h0,trivial⟩ ?_))));clear c
 rintro⟨P,x6,d,k⟩ af R8 h ⟨c,l,_⟩;rcases P with _|P;exact qp c;replace c:nu N σ B p0_ (P+1) x6 d=some Y:=c;rw [nu] at c;refine zi (zk (j3 rfl rfl) (z8 (zw (zu rfl c (fun c=>?_) (fun c=>?_)))));refine qa ?_;obtain⟨t,b,c⟩:=zq c
 refine qm (γ:=σ×(List Frag)) (rs [3,7,12,30]) (fun g=>[]) (fun g=>[]++(g.2++A)) (fun g R=>t=Ex.go g.1∧I g.1 R g.2∧True) ?_ ?_;refine zx (zi (zf (vi d) ?_));obtain⟨E,b⟩:=zb b;refine kg (i:=d.toNat) rfl zby rfl (ja (Z.mono h)) (zg rfl E.1) (zy E) fun ag Q=>?_
 refine qh rfl zbd rfl Q fun F G=>?_
 refine zh (vi d) (zh F (qw (zf F (zk (qo rfl underlying58 rfl (ja G)) (zf (vi 0) (z8 (zx (jb (γ:=Nat×σ×Int×(List Frag)) (rs [5,7,17,30]) (fun g=>[(17,(vi g.2.2.1))]) (fun g=>[]++(g.2.2.2++A)) (fun g R=>p8 N σ B p0_ d g.1 g.2.1 g.2.2.1=some t∧I g.2.1 R g.2.2.2∧True) (fun g=>g.1) (N,x6,0,k) prm ⟨b,l,trivial⟩ ?_))))))))
 clear b;rintro⟨j,u,a,m⟩ ah ai f ⟨b,n,_⟩;rcases j with _|j;exact qp b;replace b:p8 N σ B p0_ d (j+1) u a=some t:=b;rw [p8] at b;refine zi (zk (j3 rfl rfl) (z8 (zw (zu rfl b (fun b=>?_) (fun b=>?_)))))
 refine qa (zw (zx (zi (zf (vi a) ?_))));obtain⟨H,b⟩:=zb b;refine kg (i:=a.toNat) rfl zc0 rfl (ja (G.mono f)) (zg rfl H.1) (zy H) fun aj S=>?_;refine qh rfl zeq rfl S fun ak T=>?_;obtain rfl:=si.1 T;refine ko rfl ze7 fun y=>?_
 refine zh (vi a) (jr (i:=0) (vs:=[(vi ((ix (ix p0_.rows d) a).to)),(vi ((ix (ix p0_.rows d) a).out))]) za2 rfl rfl rfl rfl rfl rfl (qc rfl (qc rfl jq)) ?_)
 refine qw (zf yv (zf (vi d) (zf (vi a) (zk (xm (ps:=[(0,(vi d)),(1,(vi a))]) (v:=(.agg #[(vi d),(vi a)])) rfl (fun w=>by kernel_rfl)) (zk (w9 (i:=0) zwf za2 rfl rfl rfl rfl) ?_)))));obtain⟨z,U,b⟩:=zq b
 refine zmo (vs:=[(.agg #[(vi d),(vi a)]),(.agg #[(vi ((ix (ix p0_.rows d) a).to)),(vi ((ix (ix p0_.rows d) a).out))])]) (J:=[box y [(vi ((ix (ix p0_.rows d) a).to)),(vi ((ix (ix p0_.rows d) a).out))] 57]) (Oc:=m) (A:=A) rfl rfl rfl rfl (hy (((d,a):(Int×Int)),(⟨(ix (ix p0_.rows d) a).to,(ix (ix p0_.rows d) a).out⟩:Edge)) u z.1 z.2 _ _ [(.agg #[(vi d),(vi a)]),(.agg #[(vi ((ix (ix p0_.rows d) a).to)),(vi ((ix (ix p0_.rows d) a).out))])] (h.trans f) rfl n U) fun al o p q=>?_
 refine zk (z0g rfl) (z8 (zu rfl b (fun b=>?_) (fun b=>?_)));refine ql ?_;replace c:=z1i b c;obtain rfl:=Option.some.inj c;refine z5n (D:=[]) (J:=[box y [(vi ((ix (ix p0_.rows d) a).to)),(vi ((ix (ix p0_.rows d) a).out))] 57]) (O':=o) (rs:=[]) (vs:=[]) ((h.trans f).trans p) (List.Perm.refl _) rfl trivial ?_
 exact q;refine qa (zn ?_);obtain⟨V,b⟩:=zb b;refine zk (jh rfl rfl V) (zf (vi (a+1)) (z8 ?_));exact⟨dkt,p,jl,(j,z.2,a+1,o),Nat.lt_succ_self _,⟨rfl,trivial⟩,⟨[box y [(vi ((ix (ix p0_.rows d) a).to)),(vi ((ix (ix p0_.rows d) a).out))] 57],(List.Perm.refl _)⟩,b,q,trivial⟩
 refine jk ?_;exact⟨dkt,f,jl,(u,m),trivial,prm,(Option.some.inj b).symm,n,trivial⟩;rintro⟨W,K⟩ am an L ⟨rfl,M,_⟩;replace c:=z2x c;refine zn ?_;obtain⟨X,c⟩:=zb c;refine zk (jh rfl rfl X) (zf (vi (d+1)) (z8 ?_))
 exact⟨dkt,L,jl,(P,W,d+1,K),Nat.lt_succ_self _,⟨rfl,trivial⟩,prm,c,M,trivial⟩;refine jk ?_;show zhb _ _ _ _ _ .ret _ [] _ _;obtain rfl:=Option.some.inj c;refine z5n (D:=[]) (J:=[]) (O':=k) (rs:=[]) (vs:=[]) h (List.Perm.refl _) rfl trivial ?_;exact l
theorem q6t:Enters prog 112:=enters_of func112 rfl (by kernel_rfl)
theorem q6n: ∀ w,∃ z,(zeroValue 158).run prog w= .ok z w∧z.cells=([.int .i64 0,.int .i64 0]:List Value).toArray:=fun w=>⟨(.agg #[(vi 0),(vi 0)]),by kernel_rfl,rfl⟩
theorem zyt: ∀ w,(sizeOf 158).run prog w= .ok 2 w:=fun w=>by kernel_rfl
theorem q2g: ∀ w,(isAgg 146).run prog w= .ok false w:=fun w=>by kernel_rfl
theorem q6e: ∀ w,(isAgg 158).run prog w= .ok true w:=fun w=>by kernel_rfl
theorem q2i:ZeroOk prog 158 kA2tInti64 (((0:Int),(0:Int)):(Int×Int)) 16:=by
 obtain⟨i,zv,hi,a,c,d,f⟩:=z2u (P:=prog) (e:=158) (zv:=(.agg #[(vi 0),(vi 0)])) (k:=2) (b:=16) (by kernel_rfl);exact⟨i,zv,hi,a,c,d,fun R=>by subst f;exact⟨_,_,rfl,rfl,rfl⟩⟩
theorem q67: ∀ w,(sizeOf 146).run prog w= .ok 1 w:=fun w=>by kernel_rfl
theorem q60:TyOk prog 158 kA2tInti64:=by
 obtain⟨i,hi,a⟩: ∃ i,prog.info? 158=some i∧i.size=2:=u6 (by kernel_rfl);exact z0u underlying158 hi rfl a
theorem q74:SlOk prog 146 158 kA2tInti64:=⟨underlying146,q60⟩
theorem zce{N:Nat}{R:RH}{s:(List (Int×Int))}{a:Value}(b:VRep (tSl false kA2tInti64) R a s){r:(List (Int×Int))}(c:z3b N s=some r):CallP prog 107 #[a] R (fun v R'=>VRep (tSl true kA2tInti64) R' v r):=by
 refine qd (args:=[a]) func107 rfl rfl fun A=>?_;rw [z3b] at c;refine zi (zh vs0 (qw (zf a (zf a (zk (qo rfl underlying146 rfl (ja b)) (zf a (zk (qo rfl underlying146 rfl (ja b)) ?_)))))));obtain⟨d,c⟩:=zb c
 refine zak (v:=a) (lo:=(0:Int).toNat) (hi:=(↑s.length:Int).toNat) (mx:=(↑s.length:Int).toNat) rfl q74 rfl (ja b) (.inl ⟨rfl,rfl⟩) (.inr ⟨_,congrArg some (zg rfl (zj3 d))⟩) (.inr ⟨_,congrArg some (zg rfl (zj3 d))⟩) (zmb d) (zbp d) (Nat.le_refl _) (Nat.le_trans (zbp d) (zs7 (ja b))) (X':=(cut s 0 (↑s.length:Int))) rfl fun f g e=>?_
 have h:VRep (tSl true kA2tInti64) R f (cut s 0 (↑s.length:Int)):=z3a g (e.trans (zo5 d).symm);refine zh f (z8 (ql ?_));obtain rfl:=Option.some.inj c;refine q8 (D:=[]) (J:=[]) (rs:=[.tmp 2]) (vs:=[f]) (RH.le.refl _) rfl rfl ⟨rfl,trivial⟩ ?_;exact⟨rfl,h⟩
theorem q5b:Enters prog 107:=enters_of func107 rfl (by kernel_rfl)
theorem zco{N:Nat}{R:RH}{m:Mach}{t:Value}(u:VRep (jm false false) R t m){r:(List (Int×Int))}(d:z19 N m=some r):CallP prog 100 #[t] R (fun v R'=>VRep (tSl true kA2tInti64) R' v r):=by
 refine qd (args:=[t]) func100 rfl rfl fun A=>?_;rw [z19] at d;refine zi (ky (T:=(jm false false)) rfl rfl rfl u fun v1 R3 w h5 h2=>?_);refine zh vs0 (qw (ko rfl q54 fun E=>?_));refine z8 (zw (zi (zk (jy z1b rfl rfl h5 (u.mono w)) ?_)));obtain⟨y8,c9,d⟩:=zq d
 refine jd rfl q5m rfl (zgs (u.mono w) c9) fun aB aC F U=>?_;obtain⟨aD,rfl,V⟩:=U;refine z8 (zx (z3e ?_));obtain⟨W,Z,d⟩:=zq d
 refine zqh (Oc:=[emp,box E [vs0] 146]) (Or:=A) _ (fun(s:List (Int×Int)) R O=> ∃ (e:Value) (f:Frag),(∃ J,O.Perm (J++[box E [e] 146,f]))∧ORep kA2tInti64 R f e s∧True) (fun(s:List (Int×Int)) (c:Code) R O=>False) _ _ rfl q6t (zel (N:=N) V) (List.Perm.refl _) (by decide) (by rintro _ _ _ rfl;rfl) (by rintro s R2 R3 O2 n ⟨e,f,G,o,_⟩;exact⟨e,f,G,o.mono n,trivial⟩) (fun _ _ _ _ _ _ h=>h) (fun _ _ _ _ _ h=>h.elim) ⟨vs0,emp,⟨[],(pk 1 rfl (pk 0 rfl (List.Perm.refl _)))⟩,(z09 (T:=kA2tInti64)),trivial⟩ Z ?_ ?_ ?_
 rintro a aa aE aF ar aG au av aw H ⟨e,f,⟨_,G⟩,o,_⟩ p aH;have b:=p;clear p;(try dsimp only at b);refine zi9 (zq7 G) ?_;obtain rfl:=H;refine zi (ko rfl q6n fun j=>?_);refine jr (i:=0) (vs:=[(vi a.1.1),(vi a.1.2)]) zyt rfl rfl rfl rfl rfl rfl (qc rfl (qc rfl jq)) ?_
 refine z8 (zn (ko rfl ze7 fun k=>?_));refine jr (i:=0) (vs:=[(vi a.2.to),(vi a.2.out)]) za2 rfl rfl rfl rfl rfl rfl (qc rfl (qc rfl jq)) ?_;refine z8 ?_
 refine⟨rfl,rfl,(RH.le.refl _),[box k [(vi a.2.to),(vi a.2.out)] 57,box j [(vi a.1.1),(vi a.1.2)] 158,box E [e] 146,f],List.Perm.refl _,fun aI=>?_⟩;refine zx (zw ?_);obtain⟨x,ab,b⟩:=zq b
 refine mf 3 [] [phX (.agg #[(vi a.2.to),(vi a.2.out)]),phX (lh x),phX (.bool (decide (a.2.to=x.to∧a.2.out=x.out)))] mixed (by kernel_rfl) (bu ⟨zt,zt,zt,trivial⟩) ⟨?_,?_,?_,trivial⟩ fun aJ g=>?_;intro l aK n ha hd;exact za rfl rfl rfl (zz (w9 (i:=0) zwf za2 (ha 5 rfl) rfl rfl rfl))
 intro l aM n ha hd;exact za rfl rfl rfl (xk (vs:=[]) q6a rfl (zbo  ab) (fun _ _ h=>h));rintro l aN n ha ⟨d0,d1,_⟩;exact za rfl rfl rfl (zz (zow q5s (d0 rfl) (d1 rfl)));intro aQ ad aR ae aS af;obtain rfl:=Eq.symm ad;obtain rfl:=Eq.symm ae;obtain rfl:=Eq.symm af;refine z8 (zu rfl b (fun b=>?_) (fun b=>?_))
 refine zn (zk (qj (i:=2) q2g rfl rfl rfl) (zk (w9 (i:=1) q6e zyt rfl rfl rfl rfl) (ol (T:=kA2tInti64) (X:=([((a.1.1,a.1.2):(Int×Int))]:List (Int×Int))) (ps:=[(0,(.agg #[(vi a.1.1),(vi a.1.2)]))]) (css:=[[(vi a.1.1),(vi a.1.2)]]) rfl underlying146 q2i rfl rfl (kv ⟨⟨_,_,rfl,rfl,rfl⟩,trivial⟩) rfl rfl (by decide) fun ag aT y ah=>?_)))
 refine y5 (i:=0) rfl ah fun ai q aj=>?_;have ak:VRep (tSl true kA2tInti64) ai ag ([((a.1.1,a.1.2):(Int×Int))]:List (Int×Int)):=(z3a aj y);obtain⟨I,b⟩:=zb b
 refine dh (i:=3) (X:=aa) (Y:=([((a.1.1,a.1.2):(Int×Int))]:List (Int×Int))) rfl underlying146 q2i rfl rfl rfl (o.mono (g.trans q)) (ja (Sub.v (B:=(tSl false kA2tInti64)) (uf Sub.refl (fun _=>rfl)) ak)) I.1 I.2 fun z K C=>?_
 refine jr (i:=2) (vs:=[z]) q67 rfl rfl (z0k C) rfl rfl rfl (qc (z2s C) jq) ?_;refine z8 ?_;obtain⟨rfl,rfl⟩:=Prod.mk.inj (Option.some.inj b)
 exact⟨rfl,(g.trans q),[box k [(vi a.2.to),(vi a.2.out)] 57,box j [(vi a.1.1),(vi a.1.2)] 158,box E [z] 146,K],List.Perm.refl _,rfl,⟨z,K,⟨[box k [(vi a.2.to),(vi a.2.out)] 57,box j [(vi a.1.1),(vi a.1.2)] 158],(List.Perm.refl _)⟩,C,trivial⟩⟩;refine qa ?_
 obtain⟨rfl,rfl⟩:=Prod.mk.inj (Option.some.inj b)
 exact⟨rfl,g,[box k [(vi a.2.to),(vi a.2.out)] 57,box j [(vi a.1.1),(vi a.1.2)] 158,box E [e] 146,f],List.Perm.refl _,rfl,⟨e,f,⟨[box k [(vi a.2.to),(vi a.2.out)] 57,box j [(vi a.1.1),(vi a.1.2)] 158],(List.Perm.refl _)⟩,(o.mono g),trivial⟩⟩
 rintro aU aV ax L ⟨M,aW,⟨_,G⟩,al,_⟩;refine⟨_,_,G,?_⟩;refine zi (zk (qj (i:=0) q2g rfl rfl rfl) (y5 (i:=1) rfl al fun am P an=>?_));have ao:VRep (tSl false kA2tInti64) am M W:=(z5t an);obtain⟨aX,ap,d⟩:=zq d;refine jd rfl q5b rfl (zce ao ap) fun Q aY S aq=>?_
 refine zh Q (z8 (ql ?_));obtain rfl:=Option.some.inj d;refine q8 (D:=[]) (J:=[box E [M] 146]) (rs:=[.tmp 2]) (vs:=[Q]) ((((w.trans F).trans L).trans P).trans S) rfl rfl ⟨rfl,trivial⟩ ?_;exact⟨rfl,aq⟩;exact fun _ _ _ _ _ h=>h.elim
theorem q6c:Enters prog 100:=enters_of func100 rfl (by kernel_rfl)
theorem zdo{N:Nat}{R:RH}{m:Mach}{e:Value}(d:VRep (jm false false) R e m){r:Bool×Int}(a:z2g N m=some r):CallP prog 89 #[e] R (fun v R'=>v= .tuple #[(.bool r.1),(vi r.2)]):=by
 refine qd (args:=[e]) func89 rfl rfl fun A=>?_;rw [z2g] at a;refine zi (ky (T:=(jm false false)) rfl rfl rfl d fun s t c k u=>?_);refine zh (.bool false) (zh (vi 0) (z8 (zw (zi (zk (jy z1b rfl rfl k (d.mono c)) ?_)))));obtain⟨f,l,a⟩:=zq a
 refine jd rfl q29 rfl (z4n (d.mono c) l) fun w n b o=>?_;obtain rfl:=o;refine zh (vi f) (qw (zf (vi f) (zk (pg rfl rfl) (z8 (zu rfl a (fun a=>?_) (fun a=>?_))))));refine zi (zf (vi f) (zh (.bool false) (zh (vi f) (z8 (ql ?_)))));obtain rfl:=Option.some.inj a
 refine q8 (D:=[]) (J:=[]) (rs:=[.tmp 2,.tmp 3]) (vs:=[(.bool false),(vi f)]) (c.trans b) rfl rfl ⟨rfl,rfl,trivial⟩ ?_;exact⟨rfl,rfl⟩;refine qa (zi (zk (jy z1b rfl rfl (k.mono b) (d.mono (c.trans b))) ?_));obtain⟨g,i,a⟩:=zq a
 refine jd rfl q6c rfl (zco (d.mono (c.trans b)) i) fun p q h j=>?_;refine zk (qo rfl underlying146 rfl (ja j)) (zk (bz rfl rfl) (zh (.bool (decide ((↑g.length:Int)=0))) (zh (vi 0) (z8 (ql ?_)))));obtain rfl:=Option.some.inj a
 refine q8 (D:=[]) (J:=[]) (rs:=[.tmp 2,.tmp 3]) (vs:=[(.bool (decide ((↑g.length:Int)=0))),(vi 0)]) ((c.trans b).trans h) rfl rfl ⟨rfl,rfl,trivial⟩ ?_;exact⟨rfl,rfl⟩
theorem q7g:Enters prog 89:=enters_of func89 rfl (by kernel_rfl)
theorem zdj{N:Nat}{R:RH}{p0_:Mach}{a:Value}(c:PRep (jm false false) R a p0_){r:Bool}(b:z2d N p0_=some r):CallP prog 88 #[a] R (fun v R'=>v=(.bool r)):=by
 refine qd (args:=[a]) func88 rfl rfl fun A=>?_;rw [z2d] at b;refine zi (zh (.bool false) (qw (qh rfl z1b rfl c fun i f=>?_)));obtain⟨d,g,b⟩:=zq b;refine jd rfl q7g rfl (zdo f g) fun j k e h=>?_;obtain rfl:=h
 refine zf (.tuple #[(.bool d.1),(vi d.2)]) (zk (jc rfl rfl) (zk (jc rfl rfl) (zh (.bool d.1) (zh (vi d.2) (qw (zf (.bool d.1) (zh (.bool d.1) (z8 (ql ?_)))))))));obtain rfl:=Option.some.inj b;refine q8 (D:=[]) (J:=[]) (rs:=[.tmp 1]) (vs:=[(.bool d.1)]) e rfl rfl ⟨rfl,trivial⟩ ?_;exact⟨rfl,rfl⟩
theorem q88:Enters prog 88:=enters_of func88 rfl (by kernel_rfl)
theorem znk:FieldOk prog 121 0 0:=by
 obtain⟨i,hi,a⟩: ∃ i,prog.info? 33=some i∧i.size=1:=u6 (by kernel_rfl);exact dn underlying121 rfl rfl hi (by rw [a];rfl)
theorem q3s: ∀ w,(isAgg 33).run prog w= .ok false w:=fun w=>by kernel_rfl
theorem q6j: ∀ w,∃ z,(zeroValue 117).run prog w= .ok z w∧z.cells=([.slice none 0 0]:List Value).toArray:=fun w=>⟨vs0,by kernel_rfl,rfl⟩
theorem q52: ∀ w,(sizeOf 117).run prog w= .ok 1 w:=fun w=>by kernel_rfl
theorem q6m: ∀ w,∃ z,(zeroValue 148).run prog w= .ok z w∧z.cells=([.nilFunc]:List Value).toArray:=fun w=>⟨.nilFunc,by kernel_rfl,rfl⟩
theorem q5o: ∀ w,(sizeOf 148).run prog w= .ok 1 w:=fun w=>by kernel_rfl
theorem q2l: ∀ w,(isAgg 148).run prog w= .ok false w:=fun w=>by kernel_rfl
theorem zzf: ∀ w,(isAgg 117).run prog w= .ok false w:=fun w=>by kernel_rfl
theorem q31:Enters prog 101:=enters_of func101 rfl (by kernel_rfl)
theorem z94{N:Nat}(F:Nat): ∀ {R:RH} {s:Int} {a:Nat} {p0_:List Bool} {e:Value} {fM:Frag} (f:ORep xn R fM e p0_) {p1_:Mach} {d:Value} (k:PRep (jm false false) R d p1_) {b:Nat} {r:List Bool} (c:yz N F s p0_ p1_=some r),CallG prog 101 #[(vi s),(.pointer (some ⟨a,0,none⟩)),d,(.pointer (some ⟨b,0,none⟩))] R [box a [e] 117,fM,box b [.func (.func 101) #[] #[(.pointer (some ⟨a,0,none⟩)),d,(.pointer (some ⟨b,0,none⟩))]] 148] (fun v R' O'=> ∃ l m,v= .tuple #[]∧O'=[box a [l] 117,m,box b [.func (.func 101) #[] #[(.pointer (some ⟨a,0,none⟩)),d,(.pointer (some ⟨b,0,none⟩))]] 148]∧ORep xn R' m l r):=by
  induction F with
  |zero=>intros;rename_i c;exact qp c
  |succ F ih=>
    intro R s a p0_ e fM f p1_ d k b r c
    refine z7p (args:=[(vi s),(.pointer (some ⟨a,0,none⟩)),d,(.pointer (some ⟨b,0,none⟩))]) func101 rfl rfl fun A=>?_
    rw [yz] at c
    refine zw ?_
    refine zw ?_
    refine zn ?_
    refine jv (v:=(vi s)) rfl (ze rfl) ?_
    refine jv rfl (bz rfl rfl) ?_
    refine jv (v:=(.bool (decide (s=(-1))))) rfl (ze rfl) ?_
    refine ji rfl rfl rfl rfl (fun o=>qx (v:=e) (qj (i:=0) zzf rfl rfl rfl)) fun v7 h8=>?_
    refine ji rfl rfl rfl rfl (fun o=>qx (v:=(vi s)) (ze rfl)) fun v9 G=>?_
    obtain⟨q,c⟩:=zb c
    refine ji rfl rfl rfl rfl (fun o=>z4j (i:=s.toNat) z9m (h8.1 (zo rfl o)) f (zg (G.1 (zo rfl o)) (q (zo rfl o)).1) (zy (q (zo rfl o)))) fun ae H=>?_
    refine ji rfl rfl rfl rfl (fun o=>qx (zne (zct (i:=s.toNat) (j:=1) ty4 f rfl rfl (H.1 (zo rfl o)) (zy (q (zo rfl o)))))) fun af I=>?_
    refine jv rfl (au rfl rfl (fun hb=>(I.1 (zo rfl hb)))) ?_
    refine z8 ?_
    refine zu rfl c (fun c=>?_) (fun c=>?_)
    · refine ql ?_
      obtain rfl:=Option.some.inj c
      refine z5n (D:=[]) (J:=[]) (O':=[box a [e] 117,fM,box b [(.func (.func 101) #[] #[(.pointer (some ⟨a,0,none⟩)),d,(.pointer (some ⟨b,0,none⟩))])] 148]) (rs:=[]) (vs:=[]) (RH.le.refl _) ((pk 0 rfl (pk 0 rfl (pk 0 rfl (List.Perm.refl _))))) rfl trivial ?_
      exact⟨e,fM,rfl,rfl,f⟩
    · refine qa ?_
      refine zw ?_
      refine zn ?_
      refine zk (qj (i:=0) zzf rfl rfl rfl) ?_
      refine zf (vi s) ?_
      obtain⟨t,c⟩:=zb c
      refine tq (i:=s.toNat) rfl z9m rfl f (zg rfl t.1) (zy t) fun ah K=>?_
      refine z3s (i:=s.toNat) (j:=1) ty4 f rfl rfl K (zy t) rfl (z0f.2 rfl) fun L M=>?_
      refine z8 ?_
      refine zw ?_
      refine zn ?_
      refine je rfl xe ui rfl k fun ai O=>?_
      refine qh rfl z3h rfl O fun aj P=>?_
      refine zf (vi s) ?_
      obtain⟨x,c⟩:=zb c
      refine kg (i:=s.toNat) rfl zby rfl (ja P) (zg rfl x.1) (zy x) fun ak Q=>?_
      refine qh rfl zbd rfl Q fun al y=>?_
      refine zk (qo rfl underlying58 rfl (ja y)) ?_
      refine zf (vi 0) ?_
      refine z8 ?_
      refine zx ?_
      refine jb (γ:=Nat×Int×(List Bool)×Value×Frag) (rs [6,7,24,33]) (fun g=>[(24,(vi g.2.1))]) (fun g=>[box b [(.func (.func 101) #[] #[(.pointer (some ⟨a,0,none⟩)),d,(.pointer (some ⟨b,0,none⟩))])] 148,box a [g.2.2.2.1] 117,g.2.2.2.2]++A) (fun g R=>xz N (yz N F) s p1_ g.1 g.2.1 g.2.2.1=some r∧ORep xn R g.2.2.2.2 g.2.2.2.1 g.2.2.1∧True) (fun g=>g.1) (N,0,(up p0_ s true),e,L) ⟨[],(pk 2 rfl (pk 0 rfl (pk 0 rfl (List.Perm.refl _))))⟩ ⟨c,M,trivial⟩ ?_
      clear c
      rintro⟨p,h,S,u,w⟩ am an n ⟨c,z,_⟩
      rcases p with _|p
      · exact qp c
      replace c:xz N (yz N F) s p1_ (p+1) h S=some r:=c;rw [xz] at c
      refine zw ?_
      refine zn ?_
      refine zk (j3 rfl rfl) ?_
      refine z8 ?_
      refine zw ?_
      refine zu rfl c (fun c=>?_) (fun c=>?_)
      · refine qa ?_
        refine zw ?_
        refine zx ?_
        refine zw ?_
        refine zn ?_
        obtain⟨B,c⟩:=zb c
        refine kg (i:=h.toNat) rfl zc0 rfl (ja (y.mono n)) (zg rfl B.1) (zy B) fun ao T=>?_
        refine qh rfl zeq rfl T fun ap U=>?_
        obtain rfl:=si.1 U
        refine ko rfl ze7 fun C=>?_
        refine jr (i:=0) (vs:=[(vi ((ix (ix p1_.rows s) h).to)),(vi ((ix (ix p1_.rows s) h).out))]) za2 rfl rfl rfl rfl rfl rfl (qc rfl (qc rfl jq)) ?_
        refine z8 ?_
        refine zn ?_
        refine zk (qj (i:=1) q2l rfl rfl rfl) ?_
        refine zk (qi z0l rfl) ?_
        refine zk (qj (i:=0) ag3 rfl rfl rfl) ?_
        obtain⟨V,W,c⟩:=zq c
        refine zey (Oc:=[box a [u] 117,w,box b [(.func (.func 101) #[] #[(.pointer (some ⟨a,0,none⟩)),d,(.pointer (some ⟨b,0,none⟩))])] 148]) (Or:=[box C [(vi ((ix (ix p1_.rows s) h).to)),(vi ((ix (ix p1_.rows s) h).out))] 57]++A) (cs:=[(.pointer (some ⟨a,0,none⟩)),d,(.pointer (some ⟨b,0,none⟩))]) (vs:=[(vi ((ix (ix p1_.rows s) h).to))]) rfl q31 rfl rfl ((pk 2 rfl (pk 2 rfl (pk 1 rfl (pk 0 rfl (List.Perm.refl _)))))) (ih z (k.mono n) W) fun aq ar ac E X=>?_
        obtain⟨Y,Z,rfl,rfl,aa⟩:=X
        refine z8 ?_
        refine zn ?_
        obtain⟨ab,c⟩:=zb c
        refine zk (jh rfl rfl ab) ?_
        refine zf (vi (h+1)) ?_
        refine z8 ?_
        exact⟨dkt,E,jl,(p,h+1,V,Y,Z),Nat.lt_succ_self _,⟨rfl,trivial⟩,⟨[box C [(vi ((ix (ix p1_.rows s) h).to)),(vi ((ix (ix p1_.rows s) h).out))] 57],(pk 3 rfl (pk 2 rfl (pk 0 rfl (pk 0 rfl (List.Perm.refl _)))))⟩,c,aa,trivial⟩
      · refine jk ?_
        show zhb _ _ _ _ _ .ret _ [] _ _
        obtain rfl:=Option.some.inj c
        refine z5n (D:=[]) (J:=[]) (O':=[box a [u] 117,w,box b [(.func (.func 101) #[] #[(.pointer (some ⟨a,0,none⟩)),d,(.pointer (some ⟨b,0,none⟩))])] 148]) (rs:=[]) (vs:=[]) n ((pk 1 rfl (pk 1 rfl (pk 0 rfl (List.Perm.refl _))))) rfl trivial ?_
        exact⟨u,w,rfl,rfl,z⟩
theorem zb2{N:Nat}{R:RH}{s:Int}{a:Nat}{p0_:List Bool}{d:Value}{fM:Frag}(g:ORep xn R fM d p0_){p1_:Mach}{c:Value}(h:PRep (jm false false) R c p1_){b:Nat}{r:List Bool}(i:yz N N s p0_ p1_=some r):CallG prog 101 #[(vi s),(.pointer (some ⟨a,0,none⟩)),c,(.pointer (some ⟨b,0,none⟩))] R [box a [d] 117,fM,box b [.func (.func 101) #[] #[(.pointer (some ⟨a,0,none⟩)),c,(.pointer (some ⟨b,0,none⟩))]] 148] (fun v R' O'=> ∃ e f,v= .tuple #[]∧O'=[box a [e] 117,f,box b [.func (.func 101) #[] #[(.pointer (some ⟨a,0,none⟩)),c,(.pointer (some ⟨b,0,none⟩))]] 148]∧ORep xn R' f e r):=z94 N g h i
theorem zdm{N:Nat}{R:RH}{s:(List Bool)}{c:Value}(h:VRep (tSl false xn) R c s){f:Bool}{r:Int}(b:z2i N s f=some r):CallP prog 108 #[c,(.bool f)] R (fun v R'=>v=(vi r)):=by
 refine qd (args:=[c,(.bool f)]) func108 rfl rfl fun A=>?_;rw [z2i] at b;refine zi (zh (vi 0) (z8 ?_));obtain⟨l,a,b⟩:=zq b;refine qm (γ:=Unit) (rs [4,19]) (fun g=>[]) (fun g=>[]++A) (fun g R=>l=Ex.go g∧True) ?_ ?_
 refine zi (zf c (zk (qo rfl underlying117 rfl (ja h)) (zf (vi 0) (z8 (zx (jb (γ:=Nat×Int) (rs [4,6,8,19]) (fun g=>[(8,(vi g.2))]) (fun g=>[]++A) (fun g R=>bg N s f g.1 g.2=some l∧True) (fun g=>g.1) (N,0) prm ⟨a,trivial⟩ ?_))))));clear a;rintro⟨k,d⟩ q x e ⟨a,_⟩;rcases k with _|k
 exact qp a;replace a:bg N s f (k+1) d=some l:=a;rw [bg] at a;refine zi (zk (j3 rfl rfl) (z8 (zw (zu rfl a (fun a=>?_) (fun a=>?_)))));refine qa (zw (zx (zi (zf (vi d) (zh (vi d) (qw (zf (.bool f) (zf c (zf (vi d) ?_)))))))))
 obtain⟨j,a⟩:=zb a;refine kg (i:=d.toNat) rfl z9m rfl (ja (h.mono e)) (zg rfl j.1) (zy j) fun t m=>?_;refine qh rfl ty4 rfl m fun u n=>?_;obtain rfl:=z0f.1 n;refine zk (zwu underlying4 rfl rfl) (z8 (zu rfl a (fun a=>?_) (fun a=>?_)))
 refine zi (zf (vi d) (zh (vi d) (z8 (ql ?_))));replace b:=z1i a b;obtain rfl:=Option.some.inj b;refine q8 (D:=[]) (J:=[]) (rs:=[.tmp 4]) (vs:=[(vi d)]) e rfl rfl ⟨rfl,trivial⟩ ?_;exact⟨rfl,rfl⟩;refine qa (zn ?_);obtain⟨o,a⟩:=zb a
 refine zk (jh rfl rfl o) (zf (vi (d+1)) (z8 ?_));exact⟨dkt,(RH.le.refl _),jl,(k,d+1),Nat.lt_succ_self _,⟨rfl,trivial⟩,prm,a,trivial⟩;refine jk ?_;exact⟨dkt,e,jl,(),trivial,prm,(Option.some.inj a).symm,trivial⟩;rintro y w z p ⟨rfl,_⟩;replace b:=z2x b;refine zi (zh (vi (-1)) (z8 (ql ?_)))
 obtain rfl:=Option.some.inj b;refine q8 (D:=[]) (J:=[]) (rs:=[.tmp 4]) (vs:=[(vi (-1))]) p rfl rfl ⟨rfl,trivial⟩ ?_;exact⟨rfl,rfl⟩
theorem q6o:Enters prog 108:=enters_of func108 rfl (by kernel_rfl)
theorem zbg{N:Nat}{R:RH}{s:(List Bool)}{a:Value}(d:VRep (tSl false xn) R a s){c:Bool}{r:Bool}(b:z06 N s c=some r):CallP prog 102 #[a,(.bool c)] R (fun v R'=>v=(.bool r)):=by
 refine qd (args:=[a,(.bool c)]) func102 rfl rfl fun A=>?_;rw [z06] at b;refine zi (zh (.bool false) (qw (zf a (zf (.bool c) ?_))));obtain⟨f,g,b⟩:=zq b;refine jd rfl q6o rfl (zdm d g) fun i j e h=>?_;obtain rfl:=h
 refine zk (z3f rfl rfl) (zh (.bool (decide (0≤f))) (z8 (ql ?_)));obtain rfl:=Option.some.inj b;refine q8 (D:=[]) (J:=[]) (rs:=[.tmp 4]) (vs:=[(.bool (decide (0≤f)))]) e rfl rfl ⟨rfl,trivial⟩ ?_;exact⟨rfl,rfl⟩
theorem q6y:Enters prog 102:=enters_of func102 rfl (by kernel_rfl)
theorem zcy{N:Nat}{R:RH}{m:Mach}{h:Value}(j:VRep (jm false false) R h m){r:Bool×Int}(a:z18 N m=some r):CallP prog 91 #[h] R (fun v R'=>v= .tuple #[(.bool r.1),(vi r.2)]):=by
 refine qd (args:=[h]) func91 rfl rfl fun A=>?_;rw [z18] at a;refine zi (ky (T:=(jm false false)) rfl rfl rfl j fun o Z f O L=>?_);refine zh (.bool false) (zh (vi 0) (z8 (zw (zi (zk (jy z1b rfl rfl O (j.mono f)) ?_)))));obtain⟨p,P,a⟩:=zq a
 refine jd rfl q29 rfl (z4n (j.mono f) P) fun v8 Q e S=>?_;obtain rfl:=S;refine zh (vi p) (qw (zf (vi p) (zk (pg rfl rfl) (z8 (zu rfl a (fun a=>?_) (fun a=>?_))))));refine zi (zf (vi p) (zh (.bool false) (zh (vi p) (z8 (ql ?_)))));obtain rfl:=Option.some.inj a
 refine q8 (D:=[]) (J:=[]) (rs:=[.tmp 2,.tmp 3]) (vs:=[(.bool false),(vi p)]) (f.trans e) rfl rfl ⟨rfl,rfl,trivial⟩ ?_;exact⟨rfl,rfl⟩;refine qa (zi (je rfl xe ui rfl (L.mono e) fun U w=>?_));refine qh rfl z3h rfl w fun V x=>?_;refine zk (qo rfl underlying28 rfl (ja x)) ?_
 obtain⟨g,a⟩:=zb a;refine z7i (T:=xn) (m:=(↑m.rows.length:Int).toNat) (c:=(↑m.rows.length:Int).toNat) rfl underlying117 zo4 (zg rfl g.1) (zg rfl g.1) (Nat.le_refl _) (zdv g) (zdu g) fun q y z k=>?_;refine ko rfl q6j fun b=>?_
 refine jr (i:=0) (vs:=[q]) q52 rfl rfl (z0k k) rfl rfl rfl (qc (z2s k) jq) ?_;refine qw (ko rfl q6m fun d=>?_)
 refine qw (zk (z0w (fs:=[]) (cs:=[(.pointer (some ⟨b,0,none⟩)),o,(.pointer (some ⟨d,0,none⟩))]) rfl rfl) (jr (i:=0) (vs:=[(.func (.func 101) #[] #[(.pointer (some ⟨b,0,none⟩)),o,(.pointer (some ⟨d,0,none⟩))])]) q5o rfl rfl rfl rfl rfl rfl (qc rfl jq) ?_));refine qw (zk (qj (i:=0) q2l rfl rfl rfl) ?_)
 obtain⟨B,C,a⟩:=zq a
 refine zey (Oc:=[box b [q] 117,y,box d [(.func (.func 101) #[] #[(.pointer (some ⟨b,0,none⟩)),o,(.pointer (some ⟨d,0,none⟩))])] 148]) (Or:=[]++A) (cs:=[(.pointer (some ⟨b,0,none⟩)),o,(.pointer (some ⟨d,0,none⟩))]) (vs:=[(vi 0)]) rfl q31 rfl rfl ((pk 1 rfl (pk 1 rfl (pk 0 rfl (List.Perm.refl _))))) (zb2 k (L.mono e) C) fun W X M s E=>?_
 obtain⟨l,F,rfl,rfl,G⟩:=E;refine qw (zk (qj (i:=0) zzf rfl rfl rfl) ?_);obtain⟨n,H,a⟩:=zq a;refine zd7 (cs:=[]) (vs:=[l,(.bool false)]) (φ:=fun v=>v=(.bool n)) rfl q6y rfl rfl (fun I t u=>zbg (z5t ((zl1 1 rfl G t u):VRep (wz xn) I l B)) H) fun Y K=>?_
 obtain rfl:=K;refine zk (z0g rfl) (zh (.bool (!n)) (zh (vi 0) (z8 (ql ?_))));obtain rfl:=Option.some.inj a
 refine q8 (D:=[]) (J:=[box b [l] 117,F,box d [(.func (.func 101) #[] #[(.pointer (some ⟨b,0,none⟩)),o,(.pointer (some ⟨d,0,none⟩))])] 148]) (rs:=[.tmp 2,.tmp 3]) (vs:=[(.bool (!n)),(vi 0)]) ((f.trans e).trans s) rfl rfl ⟨rfl,rfl,trivial⟩ ?_;exact⟨rfl,rfl⟩
theorem q80:Enters prog 91:=enters_of func91 rfl (by kernel_rfl)
theorem zdi{N:Nat}{R:RH}{p0_:Mach}{a:Value}(c:PRep (jm false false) R a p0_){r:Bool}(b:z2c N p0_=some r):CallP prog 90 #[a] R (fun v R'=>v=(.bool r)):=by
 refine qd (args:=[a]) func90 rfl rfl fun A=>?_;rw [z2c] at b;refine zi (zh (.bool false) (qw (qh rfl z1b rfl c fun i f=>?_)));obtain⟨d,g,b⟩:=zq b;refine jd rfl q80 rfl (zcy f g) fun j k e h=>?_;obtain rfl:=h
 refine zf (.tuple #[(.bool d.1),(vi d.2)]) (zk (jc rfl rfl) (zk (jc rfl rfl) (zh (.bool d.1) (zh (vi d.2) (qw (zf (.bool d.1) (zh (.bool d.1) (z8 (ql ?_)))))))));obtain rfl:=Option.some.inj b;refine q8 (D:=[]) (J:=[]) (rs:=[.tmp 1]) (vs:=[(.bool d.1)]) e rfl rfl ⟨rfl,trivial⟩ ?_;exact⟨rfl,rfl⟩
theorem q8s:Enters prog 90:=enters_of func90 rfl (by kernel_rfl)
theorem q7u: ∀ w,∃ z,(zeroValue 32).run prog w= .ok z w∧z.cells=([.slice none 0 0]:List Value).toArray:=fun w=>⟨vs0,by kernel_rfl,rfl⟩
theorem za3: ∀ w,∃ z,(zeroValue 3).run prog w= .ok z w∧z.cells=([.int .i64 0]:List Value).toArray:=fun w=>⟨(vi 0),by kernel_rfl,rfl⟩
theorem q3g: ∀ w,(sizeOf 32).run prog w= .ok 1 w:=fun w=>by kernel_rfl
theorem zgo{N:Nat}{R:RH}{m:Mach}{a:Value}(d:VRep (jm false false) R a m){r:Mach}(b:z6i N m=some r):CallP prog 103 #[a] R (fun v R'=> ∃ u0,v= .func (.func 109) #[] #[u0]∧PRep (jm false false) R' u0 r):=by
 refine qd (args:=[a]) func103 rfl rfl fun A=>?_;rw [z6i] at b;refine zi (ky (T:=(jm false false)) rfl rfl rfl d fun c g e h f=>?_);refine zh .nilFunc (qw (zk (z0w (fs:=[]) (cs:=[c]) rfl rfl) (zh (.func (.func 109) #[] #[c]) (z8 (ql ?_)))));obtain rfl:=Option.some.inj b
 refine q8 (D:=[]) (J:=[]) (rs:=[.tmp 2]) (vs:=[(.func (.func 109) #[] #[c])]) e rfl rfl ⟨rfl,trivial⟩ ?_;exact⟨rfl,⟨c,rfl,f⟩⟩
theorem q75:Enters prog 103:=enters_of func103 rfl (by kernel_rfl)
theorem q2p: ∀ w,∃ z,(zeroValue 166).run prog w= .ok z w∧z.cells=((uq (ah 16 (List.replicate 16 (((0:Int),(0:Int)):(Int×Int)))))).toArray:=fun w=>⟨(.agg #[(vi 0),(vi 0),(vi 0),(vi 0),(vi 0),(vi 0),(vi 0),(vi 0),(vi 0),(vi 0),(vi 0),(vi 0),(vi 0),(vi 0),(vi 0),(vi 0),(vi 0),(vi 0),(vi 0),(vi 0),(vi 0),(vi 0),(vi 0),(vi 0),(vi 0),(vi 0),(vi 0),(vi 0),(vi 0),(vi 0),(vi 0),(vi 0)]),by kernel_rfl,by kernel_rfl⟩
theorem q2m:ArrOk prog 166 16 2:=zcs (e:=158) underlying166 (fun w=>by kernel_rfl)
theorem q5t:ArrOk prog 158 2 1:=zcs (e:=3) underlying158 (fun w=>by kernel_rfl)
theorem q2k: ∀ w,(isAgg 166).run prog w= .ok true w:=fun w=>by kernel_rfl
theorem zyg: ∀ w,(sizeOf 166).run prog w= .ok 32 w:=fun w=>by kernel_rfl
theorem zkw{N:Nat}{R:RH}{m:Mach}{n:Value}(O:VRep (jm false false) R n m){p:(List Int)}{h:Value}(P:VRep (tSl false (qb .i64)) R h p){s:Int}{r:(Arr 16 (Int×Int))}(k:z6g N m p s=some r):CallP prog 113 #[n,h,(vi s)] R (fun v R'=>v=(z4s r)):=by
 refine qd (args:=[n,h,(vi s)]) func113 rfl rfl fun A=>?_;rw [z6g] at k;refine zi (ky (T:=(jm false false)) rfl rfl rfl O fun v1 R3 C h5 h2=>?_);refine ko rfl q2p fun M=>?_;refine qw (ko rfl q2p fun B=>?_);refine z8 ?_;obtain⟨e,b,k⟩:=zq k
 refine qm (γ:=((Arr 16 (Int×Int)))) (rs [8,38]) (fun g=>[]) (fun g=>[box M (uq (ah 16 (List.replicate 16 (((0:Int),(0:Int)):(Int×Int))))) 166,box B (uq g) 166]++A) (fun g R=>e=g∧True) ?_ ?_;refine zi (je rfl xe ui rfl h2 fun ab Q=>?_);refine qh rfl z3h rfl Q fun ac S=>?_
 refine zf (vi s) ?_;obtain⟨E,b⟩:=zb b;refine kg (i:=s.toNat) rfl zby rfl (ja S) (zg rfl E.1) (zy E) fun ad U=>?_;refine qh rfl zbd rfl U fun ae F=>?_
 refine zk (qo rfl underlying58 rfl (ja F)) (zf (vi 0) (z8 (zx (jb (γ:=Nat×Int×((Arr 16 (Int×Int)))) (rs [8,10,16,38]) (fun g=>[(16,(vi g.2.1))]) (fun g=>[box M (uq (ah 16 (List.replicate 16 (((0:Int),(0:Int)):(Int×Int))))) 166,box B (uq g.2.2) 166]++A) (fun g R=>dx N m p s g.1 g.2.1 g.2.2=some e∧True) (fun g=>g.1) (N,0,(ah 16 (List.replicate 16 (((0:Int),(0:Int)):(Int×Int))))) ⟨[],(pk 1 rfl (pk 0 rfl (List.Perm.refl _)))⟩ ⟨b,trivial⟩ ?_))))
 clear b;rintro⟨l,a,d⟩ af ag f ⟨b,_⟩;rcases l with _|l;exact qp b;replace b:dx N m p s (l+1) a d=some e:=b;rw [dx] at b;refine zi (zk (j3 rfl rfl) (z8 (zw (zu rfl b (fun b=>?_) (fun b=>?_)))));refine qa ?_;obtain⟨t,c,b⟩:=zq b
 refine qm (γ:=((Arr 16 (Int×Int)))) (rs [8,10,18,37]) (fun g=>[]) (fun g=>[box M (uq (ah 16 (List.replicate 16 (((0:Int),(0:Int)):(Int×Int))))) 166,box B (uq g) 166]++A) (fun g R=>t=g∧True) ?_ ?_;refine zx (zi (zf (vi a) ?_));obtain⟨G,c⟩:=zb c
 refine kg (i:=a.toNat) rfl zc0 rfl (ja (F.mono f)) (zg rfl G.1) (zy G) fun ai V=>?_;refine qh rfl zeq rfl V fun aj W=>?_;obtain rfl:=si.1 W;refine ko rfl ze7 fun u=>?_
 refine zh (vi a) (jr (i:=0) (vs:=[(vi ((ix (ix m.rows s) a).to)),(vi ((ix (ix m.rows s) a).out))]) za2 rfl rfl rfl rfl rfl rfl (qc rfl (qc rfl jq)) ?_)
 refine qw (zf (vi a) (zk (qi z97 rfl) (zk (qj (i:=0) ag3 rfl rfl rfl) (zk (xm (ps:=[(0,(vi ((ix (ix m.rows s) a).out))),(1,(vi (-1)))]) (v:=(.agg #[(vi ((ix (ix m.rows s) a).out)),(vi (-1))])) rfl (fun w=>by kernel_rfl)) ?_))));obtain⟨x,c⟩:=zb c
 refine zk (z05 (i:=a.toNat) q2m rfl (zg rfl x.1) (Nat.lt_of_lt_of_eq (zy x) d.2)) (z7f (sz:=2) (cl:=z03) (z:=(((ix (ix m.rows s) a).out,(-1)):(Int×Int))) (vs:=[(vi ((ix (ix m.rows s) a).out)),(vi (-1))]) (q:=a) (i:=a.toNat) (o:=0) (j:=2) (X:=d) co_A2tInti64.len zyt rfl rfl (by omega) rfl (Nat.lt_of_lt_of_eq (zy x) d.2) rfl rfl rfl (qc rfl (qc rfl jq)) rfl rfl ?_)
 refine qw (zk (qi z0l rfl) (zk (qj (i:=0) ag3 rfl rfl rfl) (zk (pg rfl rfl) (z8 (zu rfl c (fun c=>?_) (fun c=>?_))))));refine z4r 8 mixed (by kernel_rfl) (by kernel_rfl) ?_;refine wh (v:=(vi a)) (ze rfl) ?_;refine wh (v:=h) (ze rfl) ?_
 refine wh (v:=(.pointer (some ⟨u,0,none⟩))) (qi z0l rfl) ?_;refine wh (v:=(vi ((ix (ix m.rows s) a).to))) (qj (i:=0) ag3 rfl rfl rfl) ?_;obtain⟨H,c⟩:=zb c;refine z6v (fw (i:=((ix (ix m.rows s) a).to).toNat) z04 rfl (ja (P.mono (C.trans f))) (zg rfl H.1) (zy H)) fun ak Y=>?_
 refine wh (rq (gq ty3 rfl Y)) ?_;obtain⟨y,c⟩:=zb c;refine wh (v:=(.pointer (some ⟨B,0+a.toNat*2,none⟩))) (z05 (i:=a.toNat) q2m rfl (zg rfl y.1) (Nat.lt_of_lt_of_eq (zy y) (sw d a (((ix (ix m.rows s) a).out,(-1)):(Int×Int))).2)) ?_
 refine wh (v:=(.pointer (some ⟨B,0+a.toNat*2+1*1,none⟩))) (z05 (i:=1) q5t rfl rfl (by decide)) ?_;intro al I
 refine z7f (sz:=2) (cl:=z03) (z:=(((ix (sw d a (((ix (ix m.rows s) a).out,(-1)):(Int×Int))).1 a).1,(ix p ((ix (ix m.rows s) a).to))):(Int×Int))) (vs:=[(vi (ix p ((ix (ix m.rows s) a).to)))]) (q:=a) (i:=a.toNat) (o:=1) (j:=2) (X:=(sw d a (((ix (ix m.rows s) a).out,(-1)):(Int×Int)))) co_A2tInti64.len sz3 rfl rfl (by omega) rfl (Nat.lt_of_lt_of_eq (zy y) (sw d a (((ix (ix m.rows s) a).out,(-1)):(Int×Int))).2) rfl rfl rfl (qc rfl jq) rfl rfl ?_
 refine z8 ?_
 exact⟨dkt,I,jl,(sw (sw d a (((ix (ix m.rows s) a).out,(-1)):(Int×Int))) a (((ix (sw d a (((ix (ix m.rows s) a).out,(-1)):(Int×Int))).1 a).1,(ix p ((ix (ix m.rows s) a).to))):(Int×Int))),trivial,⟨[box u [(vi ((ix (ix m.rows s) a).to)),(vi ((ix (ix m.rows s) a).out))] 57],(List.Perm.refl _)⟩,(Option.some.inj c).symm,trivial⟩
 refine qa ?_;exact⟨dkt,(RH.le.refl _),jl,(sw d a (((ix (ix m.rows s) a).out,(-1)):(Int×Int))),trivial,⟨[box u [(vi ((ix (ix m.rows s) a).to)),(vi ((ix (ix m.rows s) a).out))] 57],(List.Perm.refl _)⟩,(Option.some.inj c).symm,trivial⟩;rintro t am an K ⟨rfl,_⟩;refine zn ?_;obtain⟨Z,b⟩:=zb b
 refine zk (jh rfl rfl Z) (zf (vi (a+1)) (z8 ?_));exact⟨dkt,K,jl,(l,a+1,t),Nat.lt_succ_self _,⟨rfl,trivial⟩,prm,b,trivial⟩;refine jk ?_;exact⟨dkt,f,jl,d,trivial,prm,(Option.some.inj b).symm,trivial⟩;rintro e ao ap L ⟨rfl,_⟩
 refine zi (zk (ng (j:=1) (v:=(z4s e)) q2k zyg rfl rfl (co_A16A2tInti64.len _) rfl) (iw (j:=0) (cs:=(uq (ah 16 (List.replicate 16 (((0:Int),(0:Int)):(Int×Int)))))) (cs':=(uq e)) zyg rfl rfl (co_A16A2tInti64.len _) (co_A16A2tInti64.len _) rfl rfl (z0y (zbq _)) ?_));refine z8 (ql ?_)
 obtain rfl:=Option.some.inj k;refine q8 (D:=[]) (J:=[box M (uq e) 166,box B (uq e) 166]) (rs:=[.cell 6 166]) (vs:=[(z4s e)]) (C.trans L) rfl rfl ⟨⟨_,rfl,fun w hh=>z6x (i:=0) hh rfl q2k zyg (co_A16A2tInti64.len _)⟩,trivial⟩ ?_;exact⟨rfl,rfl⟩
theorem q4w:Enters prog 113:=enters_of func113 rfl (by kernel_rfl)
theorem q2s: ∀ w,∃ z,(zeroValue 169).run prog w= .ok z w∧z.cells=((bf (⟨(0:Int),(ah 16 (List.replicate 16 (((0:Int),(0:Int)):(Int×Int))))⟩:Sc))).toArray:=fun w=>⟨(.agg #[(vi 0),(vi 0),(vi 0),(vi 0),(vi 0),(vi 0),(vi 0),(vi 0),(vi 0),(vi 0),(vi 0),(vi 0),(vi 0),(vi 0),(vi 0),(vi 0),(vi 0),(vi 0),(vi 0),(vi 0),(vi 0),(vi 0),(vi 0),(vi 0),(vi 0),(vi 0),(vi 0),(vi 0),(vi 0),(vi 0),(vi 0),(vi 0),(vi 0)]),by kernel_rfl,by kernel_rfl⟩
theorem zus: ∀ w,(sizeOf 169).run prog w= .ok 33 w:=fun w=>by kernel_rfl
theorem zxn: ∀ w,(isAgg 169).run prog w= .ok true w:=fun w=>by kernel_rfl
theorem mz3: ∀ w,(zeroValue 3).run prog w= .ok ((Value.int .i64) (0:Int)) w:=fun w=>by kernel_rfl
theorem kt3:KTy prog 3 1 1 false (fun cs=> ∃ x,cs=[.int .i64 x]):=zt6 underlying3 (by kernel_rfl)
theorem q6u:KTy prog 158 2 (2*1) true (zkd 2 (fun cs=> ∃ x,cs=[.int .i64 x])):=zn8 underlying158 (by kernel_rfl) kt3
theorem q4u(x:(Int×Int)):zkd 2 (fun cs=> ∃ x,cs=[.int .i64 x]) (z03 x):=⟨[[(vi x.1)],[(vi x.2)]],rfl,by
      intro c a
      simp only [List.mem_cons,List.not_mem_nil,or_false] at a
      rcases a with rfl|rfl
      · exact⟨x.1,rfl⟩
      · exact⟨x.2,rfl⟩,rfl⟩
theorem kt166:KTy prog 166 3 (16*2) true (zkd 16 (zkd 2 (fun cs=> ∃ x,cs=[.int .i64 x]))):=zn8 underlying166 (by kernel_rfl) q6u
theorem q44(x:Sc):(fun cs=> ∃ a b,(fun cs=> ∃ x,cs=[.int .i64 x]) a∧(fun cs=> ∃ a b,(zkd 16 (zkd 2 (fun cs=> ∃ x,cs=[.int .i64 x]))) a∧(fun cs=>cs=[]) b∧cs=a++b) b∧cs=a++b) (bf x):=⟨_,_,⟨x.fP,rfl⟩,⟨_,_,(zto (fun x=>(q4u x)) x.fO),rfl,(List.append_nil _).symm⟩,rfl⟩
theorem q6p:KTy prog 169 4 33 true (fun cs=> ∃ a b,(fun cs=> ∃ x,cs=[.int .i64 x]) a∧(fun cs=> ∃ a b,(zkd 16 (zkd 2 (fun cs=> ∃ x,cs=[.int .i64 x]))) a∧(fun cs=>cs=[]) b∧cs=a++b) b∧cs=a++b):=zsw underlying169 (by kernel_rfl) (by kernel_rfl) (.cons (by decide) rfl (kt3.mono (by decide)) (.cons (by decide) rfl (kt166.mono (by decide)) .nil)) (by
  rintro cs ⟨e,f,c,⟨g,h,d,rfl,rfl⟩,rfl⟩
  simp only [List.length_append,List.length_nil,kt3.len _ c,kt166.len _ d])
theorem zzm:KOk prog 169 il:=zyz q6p (by decide) (by rw [underlying169]) (fun _=>rfl) (fun x=>(q44 x)) zhu zbr
theorem zfb{N:Nat}{R:RH}{m:Mach}{G:Value}(H:VRep (jm false false) R G m){p:(List Int)}{o:Value}(y:VRep (tSl false (qb .i64)) R o p){r:(List Int)}(q:z3k N m p=some r):CallP prog 110 #[G,o] R (fun v R'=>VRep (tSl true (qb .i64)) R' v r):=by
 refine qd (args:=[G,o]) func110 rfl rfl fun A=>?_;rw [z3k] at q;refine zi (ky (T:=(jm false false)) rfl rfl rfl H fun v1 R3 n h5 h2=>?_);refine zh vs0 (qw (zis (ke:=il) (ve:=(Value.int .i64)) rfl fun I f7 h8=>?_))
 refine zh I (qw (zf o (zk (qo rfl underlying32 rfl (ja (y.mono n))) ?_)));obtain⟨z,q⟩:=zb q;refine z7i (T:=(qb .i64)) (m:=(↑p.length:Int).toNat) (c:=(↑p.length:Int).toNat) rfl underlying32 zo3 (zg rfl z.1) (zg rfl z.1) (Nat.le_refl _) (zdv z) (zdu z) fun f Z K aa=>?_;refine zh f (z8 ?_)
 obtain⟨s,b,q⟩:=zq q;refine qm (γ:=(List Int)×Frag) (rs [7,12,16,48]) (fun g=>[]) (fun g=>[g.2]++A) (fun g R=>s=g.1∧ORep (qb .i64) R g.2 f g.1∧capOf f=g.1.length∧True) ?_ ?_
 refine zi (zf o (zk (qo rfl underlying32 rfl (ja (y.mono n))) (zf (vi 0) (z8 (zx (jb (γ:=Nat×Int×(List (Sc×Int))×(List Int)×Frag×Frag) (rs [7,12,18,48]) (fun g=>[(18,(vi g.2.1))]) (fun g=>[g.2.2.2.2.1,g.2.2.2.2.2]++A) (fun g R=>dm N m p g.1 g.2.1 g.2.2.1 g.2.2.2.1=some s∧MRep il (Value.int .i64) R g.2.2.2.2.1 I g.2.2.1∧ORep (qb .i64) R g.2.2.2.2.2 f g.2.2.2.1∧capOf f=g.2.2.2.1.length∧True) (fun g=>g.1) (N,0,[],(mk (↑p.length:Int) (0:Int)),f7,Z) ⟨[],(pk 1 rfl (pk 0 rfl (List.Perm.refl _)))⟩ ⟨b,h8,aa,(K.trans List.length_replicate.symm),trivial⟩ ?_))))))
 clear b;rintro⟨B,a,h,L,P,Q⟩ aw ax l ⟨b,C,M,F,_⟩;rcases B with _|B;exact qp b;replace b:dm N m p (B+1) a h L=some s:=b;rw [dm] at b;refine zi (zk (j3 rfl rfl) (z8 (zw (zu rfl b (fun b=>?_) (fun b=>?_)))))
 refine qa (zw (zx (zi (zf (vi a) ?_))));obtain⟨S,b⟩:=zb b;refine kg (i:=a.toNat) rfl z04 rfl (ja (y.mono (n.trans l))) (zg rfl S.1) (zy S) fun ay ab=>?_;refine qh rfl ty3 rfl ab fun az ac=>?_;obtain rfl:=jg.1 ac
 refine zh (vi a) (zh (vi (ix p a)) (qw (zf (vi (ix p a)) (zk (jy z1b rfl rfl (h5.mono l) (H.mono (n.trans l))) (zf o (zf (vi a) ?_))))));obtain⟨d,ad,b⟩:=zq b;refine jd rfl q4w rfl (zkw (H.mono (n.trans l)) (y.mono (n.trans l)) ad) fun aA aB e ae=>?_
 obtain rfl:=ae
 refine zk (zr9 (ps:=[(0,(vi (ix p a))),(1,(z4s d))]) (pls:= #[(0,1),(1,32)]) (out:=(bf (⟨(ix p a),d⟩:Sc))) (k:=33) (v:=(il (⟨(ix p a),d⟩:Sc))) rfl underlying169 (q26 (co_Srefines_key.len _) q2s) (fun w=>by kernel_rfl) (.cons rfl rfl (.last rfl (by simp only [co_A16A2tInti64.len];rfl))) (co_Srefines_key.len _) rfl) (ko rfl q2s fun U=>?_)
 refine iw (j:=0) (cs:=(bf (⟨(0:Int),(ah 16 (List.replicate 16 (((0:Int),(0:Int)):(Int×Int))))⟩:Sc))) (cs':=(bf (⟨(ix p a),d⟩:Sc))) zus rfl rfl (co_Srefines_key.len _) (co_Srefines_key.len _) rfl rfl (z0y (zbr _)) ?_;refine z8 ?_;obtain⟨E,t,b⟩:=zq b
 refine qm (γ:=(List (Sc×Int))×Frag) (rs [10,12,29,41]) (fun g=>[]) (fun g=>[g.2,Q,box U (bf (⟨(ix p a),d⟩:Sc)) 169]++A) (fun g R=>E=g.1∧MRep il (Value.int .i64) R g.2 I g.1∧True) ?_ ?_
 refine zi (zf I (zk (ng (j:=0) (v:=(il (⟨(ix p a),d⟩:Sc))) zxn zus rfl rfl (co_Srefines_key.len _) rfl) (zk (zqe (k:=(⟨(ix p a),d⟩:Sc)) underlying164 zzm mz3 (zi0 (i:=1) rfl (C.mono e)) rfl rfl) (zf (.tuple #[(vi (z5b (0:Int) h (⟨(ix p a),d⟩:Sc))),(.bool (z6l h (⟨(ix p a),d⟩:Sc)))]) (zk (jc rfl rfl) (zk (jc rfl rfl) (zh (vi (z5b (0:Int) h (⟨(ix p a),d⟩:Sc))) (zh (.bool (z6l h (⟨(ix p a),d⟩:Sc))) (qw (zf (.bool (z6l h (⟨(ix p a),d⟩:Sc))) (zk (z0g rfl) (z8 (zu rfl t (fun t=>?_) (fun t=>?_))))))))))))))
 refine zn (zf I (zk (ng (j:=0) (v:=(il (⟨(ix p a),d⟩:Sc))) zxn zus rfl rfl (co_Srefines_key.len _) rfl) (zf I (zk (zxi rfl underlying164 rfl (zi0 (i:=1) rfl (C.mono e))) (zft (i:=1) (k:=(⟨(ix p a),d⟩:Sc)) (u:=(↑h.length:Int)) underlying164 zzm rfl (C.mono e) rfl rfl rfl fun af ag=>?_)))))
 refine z8 ?_;exact⟨dkt,(RH.le.refl _),jl,((z6t h (⟨(ix p a),d⟩:Sc) (↑h.length:Int)),af),trivial,⟨[],(pk 1 rfl (pk 1 rfl (pk 0 rfl (List.Perm.refl _))))⟩,(Option.some.inj t).symm,ag,trivial⟩;refine qa ?_
 exact⟨dkt,(RH.le.refl _),jl,(h,P),trivial,⟨[],(pk 1 rfl (pk 1 rfl (pk 0 rfl (List.Perm.refl _))))⟩,(Option.some.inj t).symm,(C.mono e),trivial⟩;rintro⟨E,ai⟩ aC aD x ⟨rfl,V,_⟩
 refine zn (zf f (zf (vi a) (zf I (zk (ng (j:=2) (v:=(il (⟨(ix p a),d⟩:Sc))) zxn zus rfl rfl (co_Srefines_key.len _) rfl) (zk (zk0 (k:=(⟨(ix p a),d⟩:Sc)) underlying164 zzm mz3 (zi0 (i:=0) rfl V) rfl rfl) ?_)))));obtain⟨O,b⟩:=zb b
 refine tq (i:=a.toNat) rfl z04 rfl (M.mono (e.trans x)) (zg rfl O.1) (zy O) fun aE aj=>?_;refine z3s (i:=a.toNat) (j:=1) ty3 (M.mono (e.trans x)) rfl rfl aj (zy O) rfl (jg.2 rfl) fun ak al=>?_;refine z8 (zn ?_);obtain⟨am,b⟩:=zb b
 refine zk (jh rfl rfl am) (zf (vi (a+1)) (z8 ?_))
 exact⟨dkt,(e.trans x),jl,(B,a+1,E,(up L a (z5b (0:Int) E (⟨(ix p a),d⟩:Sc))),ai,ak),Nat.lt_succ_self _,⟨rfl,trivial⟩,⟨[box U (bf (⟨(ix p a),d⟩:Sc)) 169],(pk 2 rfl (pk 0 rfl (pk 0 rfl (List.Perm.refl _))))⟩,b,V,al,(F.trans List.length_set.symm),trivial⟩;refine jk ?_
 exact⟨dkt,l,jl,(L,Q),trivial,⟨[P],(List.Perm.refl _)⟩,(Option.some.inj b).symm,M,F,trivial⟩;rintro⟨s,aF⟩ aG aH W ⟨rfl,an,X,_⟩;refine zi (zf f (zh f (z8 (ow (i:=0) rfl an fun ao Y ap=>?_))));have aq:VRep (tSl true (qb .i64)) ao f s:=(z3a ap X);refine ql ?_;obtain rfl:=Option.some.inj q
 refine q8 (D:=[]) (J:=[]) (rs:=[.tmp 4]) (vs:=[f]) ((n.trans W).trans Y) rfl rfl ⟨rfl,trivial⟩ ?_;exact⟨rfl,aq⟩
theorem q5x:Enters prog 110:=enters_of func110 rfl (by kernel_rfl)
theorem zej{N:Nat}{R:RH}{s1_:(List Int)}{b:Value}(e:VRep (tSl false (qb .i64)) R b s1_){s2_:(List Int)}{d:Value}(f:VRep (tSl false (qb .i64)) R d s2_){r:Bool}(c:slices_Equal_int N s1_ s2_=some r):CallP prog 111 #[b,d] R (fun v R'=>v=(.bool r)):=by
 refine qd (args:=[b,d]) func111 rfl rfl fun A=>?_;rw [slices_Equal_int] at c;refine zi (zh (.bool false) (z8 (zw (zi (zf b (zk (qo rfl underlying32 rfl (ja e)) (zf d (zk (qo rfl underlying32 rfl (ja f)) (zk (pg rfl rfl) (z8 (zu rfl c (fun c=>?_) (fun c=>?_))))))))))))
 refine zi (zh (.bool false) (z8 (ql ?_)));obtain rfl:=Option.some.inj c;refine q8 (D:=[]) (J:=[]) (rs:=[.tmp 4]) (vs:=[(.bool false)]) (RH.le.refl _) rfl rfl ⟨rfl,trivial⟩ ?_;exact⟨rfl,rfl⟩;refine qa ?_;obtain⟨o,a,c⟩:=zq c;refine qm (γ:=Unit) (rs [4,6,11,26]) (fun g=>[]) (fun g=>[]++A) (fun g R=>o=Ex.go g∧True) ?_ ?_
 refine zi (zf b (zk (qo rfl underlying32 rfl (ja e)) (zf (vi 0) (z8 (zx (jb (γ:=Nat×Int) (rs [4,6,13,26]) (fun g=>[(13,(vi g.2))]) (fun g=>[]++A) (fun g R=>p9 N s1_ s2_ g.1 g.2=some o∧True) (fun g=>g.1) (N,0) prm ⟨a,trivial⟩ ?_))))));clear a;rintro⟨n,h⟩ u B j ⟨a,_⟩
 rcases n with _|n;exact qp a;replace a:p9 N s1_ s2_ (n+1) h=some o:=a;rw [p9] at a;refine zi (zk (j3 rfl rfl) (z8 (zw (zu rfl a (fun a=>?_) (fun a=>?_)))))
 refine qa (zw (zx (zi (zf (vi h) (zh (vi h) (z8 (zw (z4r 9 mixed (by kernel_rfl) (by kernel_rfl) ?_))))))));refine wh (v:=b) (ze rfl) ?_;refine wh (v:=(vi h)) (ze rfl) ?_;obtain⟨l,a⟩:=zb a
 refine z6v (fw (i:=h.toNat) z04 rfl (ja (e.mono j)) (zg rfl l.1) (zy l)) fun w p=>?_;refine wh (rq (gq ty3 rfl p)) ?_;refine wh (v:=d) (ze rfl) ?_;refine wh (v:=(vi h)) (ze rfl) ?_;obtain⟨m,a⟩:=zb a
 refine z6v (fw (i:=h.toNat) z04 rfl (ja (f.mono j)) (zg rfl m.1) (zy m)) fun x q=>?_;refine wh (rq (gq ty3 rfl q)) ?_;refine wh (pg rfl rfl) ?_;intro y k;refine z8 (zu rfl a (fun a=>?_) (fun a=>?_));refine zi (zh (.bool false) (z8 (ql ?_)));replace c:=z1i a c
 obtain rfl:=Option.some.inj c;refine q8 (D:=[]) (J:=[]) (rs:=[.tmp 4]) (vs:=[(.bool false)]) (j.trans k) rfl rfl ⟨rfl,trivial⟩ ?_;exact⟨rfl,rfl⟩;refine qa (zn ?_);obtain⟨s,a⟩:=zb a;refine zk (jh rfl rfl s) (zf (vi (h+1)) (z8 ?_));exact⟨dkt,k,jl,(n,h+1),Nat.lt_succ_self _,⟨rfl,trivial⟩,prm,a,trivial⟩
 refine jk ?_;exact⟨dkt,j,jl,(),trivial,prm,(Option.some.inj a).symm,trivial⟩;rintro C z E t ⟨rfl,_⟩;replace c:=z2x c;refine zi (zh (.bool true) (z8 (ql ?_)));obtain rfl:=Option.some.inj c;refine q8 (D:=[]) (J:=[]) (rs:=[.tmp 4]) (vs:=[(.bool true)]) t rfl rfl ⟨rfl,trivial⟩ ?_;exact⟨rfl,rfl⟩
theorem q66:Enters prog 111:=enters_of func111 rfl (by kernel_rfl)
theorem ze9{N:Nat}{R:RH}{p0_:Mach}{h:Value}(l:PRep (jm false false) R h p0_):zxj prog 109 [h] R (fun(x:(List Int)) vs R=> ∃ u0,vs=[u0]∧VRep (tSl false (qb .i64)) R u0 x) (fun σ B s=>z4k N p0_ σ B s):=by
 intro yv σ B I R1 O s0 Y r t Z a hy;refine z7p (args:=[yv,h]) func109 rfl rfl fun A=>?_;dsimp only at a;rw [z4k] at a;refine zi (je rfl xe ui rfl (l.mono r) fun v1 h2=>?_);refine qh rfl z3h rfl h2 fun v3 h4=>?_;refine zk (qo rfl underlying28 rfl (ja h4)) ?_;obtain⟨H,a⟩:=zb a
 refine z7i (T:=(qb .i64)) (m:=(↑p0_.rows.length:Int).toNat) (c:=(↑p0_.rows.length:Int).toNat) rfl underlying32 zo3 (zg rfl H.1) (zg rfl H.1) (Nat.le_refl _) (zdv H) (zdu H) fun K f6 y h8=>?_;refine zh K (z8 (zx (ow (i:=0) rfl h8 fun L d M=>?_)))
 have P:VRep (tSl true (qb .i64)) L K (mk (↑p0_.rows.length:Int) (0:Int)):=(z3a M (y.trans List.length_replicate.symm))
 refine jb (γ:=Nat×σ×((List Int))×(List Frag)×Value) (rs [3,5,9,19]) (fun g=>[(3,g.2.2.2.2)]) (fun g=>[]++(g.2.2.2.1++A)) (fun g R=>oh N σ B p0_ g.1 g.2.1 g.2.2.1=some Y∧I g.2.1 R g.2.2.2.1∧VRep (tSl true (qb .i64)) R g.2.2.2.2 g.2.2.1∧True) (fun g=>g.1) (N,s0,(mk (↑p0_.rows.length:Int) (0:Int)),O,K) prm ⟨a,(t _ _ _ _ d Z),P,trivial⟩ ?_
 clear a;rintro⟨q,z,C,E,k⟩ ae af j ⟨a,F,u,_⟩;rcases q with _|q;exact qp a;replace a:oh N σ B p0_ (q+1) z C=some Y:=a;rw [oh] at a;refine zw (zi (zf yv (zf k ?_)));obtain⟨w,Q,a⟩:=zq a
 refine zmo (vs:=[k]) (J:=[]) (Oc:=E) (A:=A) rfl rfl rfl rfl (hy C z w.1 w.2 _ _ [k] (d.trans j) ⟨k,rfl,(Sub.v (B:=(tSl false (qb .i64))) (uf Sub.refl (fun _=>rfl)) u)⟩ F Q) fun ag n b o=>?_;refine z8 (zu rfl a (fun a=>?_) (fun a=>?_))
 refine qa (zx (zi (qh rfl z1b rfl (l.mono (((r.trans d).trans j).trans b)) fun ah S=>?_)));refine zf k ?_;obtain⟨U,V,a⟩:=zq a;refine jd rfl q5x rfl (zfb S (Sub.v (B:=(tSl false (qb .i64))) (uf Sub.refl (fun _=>rfl)) (u.mono b)) V) fun p ai e G=>?_
 refine zh p (z8 (zw (zi (zf k (zf p ?_)))));obtain⟨aj,W,a⟩:=zq a;refine jd rfl q66 rfl (zej (Sub.v (B:=(tSl false (qb .i64))) (uf Sub.refl (fun _=>rfl)) (u.mono (b.trans e))) (Sub.v (B:=(tSl false (qb .i64))) (uf Sub.refl (fun _=>rfl)) G) W) fun ak al f X=>?_;obtain rfl:=X
 refine z8 (zu rfl a (fun a=>?_) (fun a=>?_));refine ql ?_;obtain rfl:=Option.some.inj a;refine z5n (D:=[]) (J:=[]) (O':=n) (rs:=[]) (vs:=[]) ((((d.trans j).trans b).trans e).trans f) (List.Perm.refl _) rfl trivial ?_;exact(t _ _ _ _ (e.trans f) o);refine qa (zn (zf p (zh p (z8 ?_))))
 exact⟨dkt,((b.trans e).trans f),jl,(q,w.2,U,n,p),Nat.lt_succ_self _,⟨rfl,trivial⟩,prm,a,(t _ _ _ _ (e.trans f) o),(G.mono f),trivial⟩;refine jk ?_;show zhb _ _ _ _ _ .ret _ [] _ _;obtain rfl:=Option.some.inj a
 refine z5n (D:=[]) (J:=[]) (O':=n) (rs:=[]) (vs:=[]) ((d.trans j).trans b) (List.Perm.refl _) rfl trivial ?_;exact o
theorem q53:Enters prog 109:=enters_of func109 rfl (by kernel_rfl)
theorem znh: ∀ w,(isAgg 32).run prog w= .ok false w:=fun w=>by kernel_rfl
theorem zg6{N:Nat}{R:RH}{m:Mach}{F:Value}(o:VRep (jm false false) R F m){r:(List Int)×Int×Int}(a:z3o N m=some r):CallP prog 93 #[F] R (fun v R'=> ∃ u0,v= .tuple #[u0,(vi r.2.1),(vi r.2.2)]∧VRep (tSl false (qb .i64)) R' u0 r.1):=by
 refine qd (args:=[F]) func93 rfl rfl fun A=>?_;rw [z3o] at a;refine zi (ky (T:=(jm false false)) rfl rfl rfl o fun v1 R3 k h5 h2=>?_);refine ko rfl q7u fun t=>?_;refine ko rfl za3 fun u=>?_;refine zh (vi 0) (z8 (zw (zi (zk (jy z1b rfl rfl h5 (o.mono k)) ?_))))
 obtain⟨p,X,a⟩:=zq a;refine jd rfl q29 rfl (z4n (o.mono k) X) fun ar au d Y=>?_;obtain rfl:=Y;refine zh (vi p) (qw (zf (vi p) (zk (pg rfl rfl) (z8 (zu rfl a (fun a=>?_) (fun a=>?_))))))
 refine zi (zf (vi p) (jr (i:=1) (vs:=[vs0]) q3g rfl rfl rfl rfl rfl rfl (qc rfl jq) ?_));refine jr (i:=0) (vs:=[(vi 0)]) sz3 rfl rfl rfl rfl rfl rfl (qc rfl jq) ?_;refine zh (vi p) (z8 (ql ?_));obtain rfl:=Option.some.inj a
 refine q8 (D:=[]) (J:=[box u [(vi 0)] 3,box t [vs0] 32]) (rs:=[.cell 2 32,.cell 3 3,.tmp 4]) (vs:=[vs0,(vi 0),(vi p)]) (k.trans d) rfl rfl ⟨⟨_,rfl,fun w G=>zda (i:=1) G rfl rfl znh  ⟩,⟨_,rfl,fun w G=>zda (i:=0) G rfl rfl ag3  ⟩,rfl,trivial⟩ ?_;exact⟨rfl,⟨vs0,rfl,z3y⟩⟩
 refine qa (zi (jr (i:=0) (vs:=[(vi (-1))]) sz3 rfl rfl rfl rfl rfl rfl (qc rfl jq) ?_));refine z8 (zw (zi (zk (jy z1b rfl rfl (h5.mono d) (o.mono (k.trans d))) ?_)));obtain⟨av,Z,a⟩:=zq a;refine jd rfl q75 rfl (zgo (o.mono (k.trans d)) Z) fun aw ay M aa=>?_
 obtain⟨az,rfl,ab⟩:=aa;refine z8 (zx ?_);obtain⟨g,ac,a⟩:=zq a
 refine zqh (Oc:=[box u [(vi (-1))] 3,box t [vs0] 32]) (Or:=A) _ (fun(s:(List Int)×Int) R O=> ∃ (n:Value),(∃ J,O.Perm (J++[box t [n] 32,box u [(vi s.2)] 3]))∧VRep (tSl false (qb .i64)) R n s.1∧True) (fun(s:(List Int)×Int) (c:Code) R O=>False) _ _ rfl q53 (ze9 (N:=N) ab) (List.Perm.refl _) (by decide) (by rintro _ _ _ ⟨_,rfl,_⟩;rfl) (by rintro s R2 R3 O2 j ⟨n,P,Q,_⟩;exact⟨n,P,Q.mono j,trivial⟩) (fun _ _ _ _ _ _ h=>h) (fun _ _ _ _ _ h=>h.elim) ⟨vs0,⟨[],(pk 1 rfl (pk 0 rfl (List.Perm.refl _)))⟩,z3y,trivial⟩ ac ?_ ?_ ?_
 rintro aA H aB aC ai aD aj ak al S ⟨n,⟨_,P⟩,Q,_⟩ z aE;have x:=z;clear z;(try dsimp only at x);refine zi9 (zq7 P) ?_;obtain⟨q,rfl,I⟩:=S;refine zn (zh q (z8 ?_));refine⟨rfl,rfl,(RH.le.refl _),[box t [n] 32,box u [(vi H.2)] 3],List.Perm.refl _,fun aF=>?_⟩
 refine zx (zi (zf q (jr (i:=0) (vs:=[q]) q3g rfl rfl (z0a I) rfl rfl rfl (qc (z6p I) jq) ?_)));refine z8 (zn (zk (qj (i:=1) ag3 rfl rfl rfl) ?_));obtain⟨ad,x⟩:=zb x;refine zk (jh rfl rfl ad) (jr (i:=1) (vs:=[(vi (H.2+1))]) sz3 rfl rfl rfl rfl rfl rfl (qc rfl jq) ?_)
 refine z8 ?_;obtain⟨rfl,rfl⟩:=Prod.mk.inj (Option.some.inj x);exact⟨rfl,(RH.le.refl _),[box t [q] 32,box u [(vi (H.2+1))] 3],List.Perm.refl _,rfl,⟨q,⟨[],List.Perm.refl _⟩,I,trivial⟩⟩;rintro aG aH am U ⟨f,⟨_,P⟩,K,_⟩;refine⟨_,_,P,?_⟩
 refine zw (zu6 [2,3] [(fun es=>phX f),(fun es=>phX (vi g.2)),(fun es=>(fun _ _=>True)),(fun es=>(fun _ _=>True)),(fun es=>phX (vi 0))] (fun fl es R O=>(fl=[false,false]∧O.Perm ([box t [f] 32,box u [(vi g.2)] 3]++A)∧True)∨(fl=[true,false]∧O.Perm ([box t [f] 32,box u [(vi g.2)] 3]++A)∧True)∨(fl=[true,true]∧O.Perm ([box t [f] 32,box u [(vi g.2)] 3]++A)∧True)) mixed (by kernel_rfl) ⟨(rz zt),(rz zt),(fun _ _ _ _ _ h=>h),(fun _ _ _ _ _ h=>h),(rz zt),trivial⟩ (by rintro fl es R R' O j (⟨rfl,b,_⟩|⟨rfl,b,_⟩|⟨rfl,b,_⟩);exact(.inl ⟨rfl,b,trivial⟩);exact(.inr (.inl ⟨rfl,b,trivial⟩));exact(.inr (.inr ⟨rfl,b,trivial⟩))) ⟨(fun _ _ _ _ _ h=>h),(fun _ _ _ _ _ h=>h),(fun _ _ _ _ _ h=>h),(fun _ _ _ _ _ h=>h),(fun _ _ _ _ _ h=>h),trivial⟩ (fun es=> .inl ⟨rfl,(List.Perm.refl _),trivial⟩) ⟨?_,?_,?_,?_,?_,trivial⟩ fun aI B=>?_)
 intro l aJ fl O j y L C E;rcases E with⟨rfl,b,_⟩|⟨rfl,b,_⟩|⟨rfl,b,_⟩;exact zgd b (zz (qj (i:=0) znh (y 2 rfl) rfl rfl));exact zcu C (by kernel_rfl);exact zcu C (by kernel_rfl);intro l aK fl O j y L C E;rcases E with⟨rfl,b,_⟩|⟨rfl,b,_⟩|⟨rfl,b,_⟩;exact zgd b (zz (qj (i:=1) ag3 (y 3 rfl) rfl rfl))
 exact zgd b (zz (qj (i:=1) ag3 (y 3 rfl) rfl rfl));exact zcu C (by kernel_rfl);intro l aL fl O j y L C V E;obtain⟨W,d1,d2,_⟩:=L;rcases E with⟨rfl,b,_⟩|⟨rfl,b,_⟩|⟨rfl,b,_⟩;refine z4v b ?_
 refine Eff.mono (z4t (i:=0) (vs:=[f]) q3g (y 2 rfl) (W rfl) (z0a K) rfl rfl (Nat.le_of_ble_eq_true rfl) (qc (z6p K) jq)) ?_;rintro v R' O' hle' ⟨_,rfl,rfl⟩;exact⟨trivial,.inr (.inl ⟨rfl,(List.Perm.refl _),trivial⟩)⟩;cases V;cases V;intro l aM fl O j y L C V E;obtain⟨W,d1,d2,d3,d4,_⟩:=L
 rcases E with⟨rfl,b,_⟩|⟨rfl,b,_⟩|⟨rfl,b,_⟩;exact zcu C (by kernel_rfl);refine z4v b ?_;refine Eff.mono (z4t (i:=1) (vs:=[(vi g.2)]) sz3 (y 3 rfl) (W rfl) rfl rfl rfl (Nat.le_of_ble_eq_true rfl) (qc rfl jq)) ?_;rintro v R' O' hle' ⟨_,rfl,rfl⟩;exact⟨trivial,.inr (.inr ⟨rfl,(List.Perm.refl _),trivial⟩)⟩;cases V
 intro l aP fl O j y L C E;obtain⟨W,d1,d2,d3,d4,_⟩:=L;exact zz (ax rfl);intro aQ aR aS ae af ag;rintro ap (⟨e,_⟩|⟨e,_⟩|⟨_,b,_⟩);cases e;cases e;refine⟨[],_,b,?_⟩;obtain rfl:=Eq.symm ae;obtain rfl:=Eq.symm af;obtain rfl:=Eq.symm ag;refine z8 (ql ?_);obtain rfl:=Option.some.inj a
 refine q8 (D:=[]) (J:=[box t [f] 32,box u [(vi g.2)] 3]) (rs:=[.cell 2 32,.cell 3 3,.tmp 4]) (vs:=[f,(vi g.2),(vi 0)]) ((((k.trans d).trans M).trans U).trans B) rfl rfl ⟨⟨_,rfl,fun w G=>zda (i:=0) G rfl rfl znh  ⟩,⟨_,rfl,fun w G=>zda (i:=1) G rfl rfl ag3  ⟩,rfl,trivial⟩ ?_
 exact⟨rfl,⟨f,rfl,(K.mono B)⟩⟩;exact fun _ _ _ _ _ h=>h.elim
theorem q7o:Enters prog 93:=enters_of func93 rfl (by kernel_rfl)
theorem zh4{N:Nat}{R:RH}{x:(List Int)}{d:Value}(h:VRep (tSl false (qb .i64)) R d x){r:Int}(b:slices_Max_int N x=some r):CallP prog 94 #[d] R (fun v R'=>v=(vi r)):=by
 refine qd (args:=[d]) func94 rfl rfl fun A=>?_;rw [slices_Max_int] at b;refine zi (zh (vi 0) (z8 (zw (zi (zf d (zk (qo rfl underlying32 rfl (ja h)) (zk (j3 rfl rfl) (z8 (zu rfl b (fun b=>?_) (fun b=>?_))))))))));exact qp b;refine qa (zi (zf d ?_));obtain⟨q,b⟩:=zb b
 refine kg (i:=(0:Int).toNat) rfl z04 rfl (ja h) (zg rfl q.1) (zy q) fun C s=>?_;refine qh rfl ty3 rfl s fun E t=>?_;obtain rfl:=jg.1 t;refine zh (vi (ix x 0)) (z8 ?_);obtain⟨k,a,b⟩:=zq b
 refine qm (γ:=Int) (rs [3,5,12,24]) (fun g=>[(3,(vi g))]) (fun g=>[]++A) (fun g R=>k=g∧True) ?_ ?_
 refine zi (zh (vi 1) (z8 (zx (jb (γ:=Nat×Int×Int) (rs [3,5,12,24]) (fun g=>[(3,(vi g.2.1)),(4,(vi g.2.2))]) (fun g=>[]++A) (fun g R=>nz N x g.1 g.2.1 g.2.2=some k∧True) (fun g=>g.1) (N,(ix x 0),1) prm ⟨a,trivial⟩ ?_))));clear a;rintro⟨j,e,c⟩ u w f ⟨a,_⟩;rcases j with _|j
 exact qp a;replace a:nz N x (j+1) e c=some k:=a;rw [nz] at a;refine zw (zi (zf (vi c) (zf d (zk (qo rfl underlying32 rfl (ja (h.mono f))) (zk (j3 rfl rfl) (z8 (zu rfl a (fun a=>?_) (fun a=>?_))))))))
 refine qa (zw (zx (zn (zf (vi e) (zf d (zf (vi c) ?_))))));obtain⟨l,a⟩:=zb a;refine kg (i:=c.toNat) rfl z04 rfl (ja (h.mono f)) (zg rfl l.1) (zy l) fun y m=>?_;refine qh rfl ty3 rfl m fun z n=>?_;obtain rfl:=jg.1 n
 refine zk (zop rfl underlying3 rfl rfl) (zh (vi (max e (ix x c))) (z8 (zn (zf (vi c) ?_))));obtain⟨o,a⟩:=zb a;refine zk (jh rfl rfl o) (zh (vi (c+1)) (z8 ?_));exact⟨dkt,(RH.le.refl _),jl,(j,max e (ix x c),c+1),Nat.lt_succ_self _,⟨rfl,rfl,trivial⟩,prm,a,trivial⟩;refine jk ?_
 exact⟨dkt,f,jl,e,⟨rfl,trivial⟩,prm,(Option.some.inj a).symm,trivial⟩;rintro k B F p ⟨rfl,_⟩;refine zi (zf (vi k) (zh (vi k) (z8 (ql ?_))));obtain rfl:=Option.some.inj b;refine q8 (D:=[]) (J:=[]) (rs:=[.tmp 2]) (vs:=[(vi k)]) p rfl rfl ⟨rfl,trivial⟩ ?_;exact⟨rfl,rfl⟩
theorem q90:Enters prog 94:=enters_of func94 rfl (by kernel_rfl)
theorem zdh{N:Nat}{R:RH}{p0_:Mach}{b:Value}(d:PRep (jm false false) R b p0_){r:Bool}(a:z1x N p0_=some r):CallP prog 92 #[b] R (fun v R'=>v=(.bool r)):=by
 refine qd (args:=[b]) func92 rfl rfl fun A=>?_;rw [z1x] at a;refine zi (zh (.bool false) (qw (qh rfl z1b rfl d fun s m=>?_)));obtain⟨e,n,a⟩:=zq a;refine jd rfl q7o rfl (zg6 m n) fun t u i o=>?_;obtain⟨h,rfl,f⟩:=o
 refine zf (.tuple #[h,(vi e.2.1),(vi e.2.2)]) (zk (jc rfl rfl) (zk (jc rfl rfl) (zk (jc rfl rfl) (zh h (zh (vi e.2.1) (zh (vi e.2.2) (qw (zf h ?_))))))));obtain⟨g,j,a⟩:=zq a;refine jd rfl q90 rfl (zh4 f j) fun p q c k=>?_;obtain rfl:=k
 refine zf h (zk (qo rfl underlying32 rfl (ja (f.mono c))) ?_);obtain⟨l,a⟩:=zb a;refine zk (zbi rfl rfl l) (zk (bz rfl rfl) (zh (.bool (decide (g=((↑e.1.length:Int)-1)))) (z8 (ql ?_))));obtain rfl:=Option.some.inj a
 refine q8 (D:=[]) (J:=[]) (rs:=[.tmp 1]) (vs:=[(.bool (decide (g=((↑e.1.length:Int)-1))))]) (i.trans c) rfl rfl ⟨rfl,trivial⟩ ?_;exact⟨rfl,rfl⟩
theorem q7v:Enters prog 92:=enters_of func92 rfl (by kernel_rfl)
theorem zem{N:Nat}{R:RH}{m:Mach}{o:Value}(k:VRep (jm false false) R o m){r:Int}(a:z2r N m=some r):CallP prog 56 #[o] R (fun v R'=>v=(vi r)):=by
 refine qd (args:=[o]) func56 rfl rfl fun A=>?_;rw [z2r] at a;refine zi (ky (T:=(jm false false)) rfl rfl rfl k fun v1 R3 e P h2=>?_);refine zh (vi 0) (z8 (zw (zi (zk (jy z1b rfl rfl P (k.mono e)) ?_))));obtain⟨y,Q,a⟩:=zq a
 refine jd rfl q29 rfl (z4n (k.mono e) Q) fun v8 S b U=>?_;obtain rfl:=U;refine zh (vi y) (qw (zf (vi y) (zk (pg rfl rfl) (z8 (zu rfl a (fun a=>?_) (fun a=>?_))))));refine zi (zf (vi y) (zh (vi y) (z8 (ql ?_))));obtain rfl:=Option.some.inj a
 refine q8 (D:=[]) (J:=[]) (rs:=[.tmp 2]) (vs:=[(vi y)]) (e.trans b) rfl rfl ⟨rfl,trivial⟩ ?_;exact⟨rfl,rfl⟩;refine qa (zw (zi (zk (jy z1b rfl rfl (P.mono b) (k.mono (e.trans b))) ?_)));obtain⟨V,B,a⟩:=zq a;refine jd rfl q86 rfl (zfc (k.mono (e.trans b)) B) fun W X h C=>?_
 obtain⟨c,f,g,rfl,E,F,G⟩:=C;refine zf (vi 0) (z8 (zx (zw8 8 ?_)));refine z9i ?_;refine zi (zk (j3 rfl rfl) (z8 (zw ?_)));refine zfz rfl (fun p=>?_) (fun p=>absurd p (by decide));clear p
 refine qa (zw (zx (zi (zk (zgx (v:=(.agg #[(vi 9),(.func (.func 88) #[] #[c]),(vi 11),(.func (.func 90) #[] #[f]),(vi 12),(.func (.func 92) #[] #[g])])) (i:=(vi 0)) (u:=(.agg #[(vi 9),(.func (.func 88) #[] #[c])])) rfl rfl (fun w=>by kernel_rfl)) (ko rfl zyx fun l=>?_)))))
 refine jr (i:=0) (vs:=[(vi 9),(.func (.func 88) #[] #[c])]) q07 rfl rfl rfl rfl rfl rfl (qc rfl (qc rfl jq)) ?_;refine qw (zk (qi znu rfl) (zk (qj (i:=0) q4o rfl rfl rfl) ?_));obtain⟨Y,H,a⟩:=zq a;refine zky (cs:=[c]) (vs:=[]) rfl q88 rfl rfl (zdj E H) fun Z aa d I=>?_
 obtain rfl:=I;refine zk (z0g rfl) (z8 (zu rfl a (fun a=>?_) (fun a=>?_)));refine zi (zk (qi znk rfl) (zk (qj (i:=0) q3s rfl rfl rfl) (zh (vi 9) (z8 (ql ?_)))));obtain rfl:=Option.some.inj a
 refine q8 (D:=[]) (J:=[box l [(vi 9),(.func (.func 88) #[] #[c])] 121]) (rs:=[.tmp 2]) (vs:=[(vi 9)]) (((e.trans b).trans h).trans d) rfl rfl ⟨rfl,trivial⟩ ?_;exact⟨rfl,rfl⟩;refine qa (zn (zk (jh rfl rfl (by decide)) (zf (vi 1) (z8 (z9i ?_)))));refine zi (zk (j3 rfl rfl) (z8 (zw ?_)))
 refine zfz rfl (fun q=>?_) (fun q=>absurd q (by decide));clear q
 refine qa (zw (zx (zi (zk (zgx (v:=(.agg #[(vi 9),(.func (.func 88) #[] #[c]),(vi 11),(.func (.func 90) #[] #[f]),(vi 12),(.func (.func 92) #[] #[g])])) (i:=(vi 1)) (u:=(.agg #[(vi 11),(.func (.func 90) #[] #[f])])) rfl rfl (fun w=>by kernel_rfl)) (ko rfl zyx fun s=>?_)))))
 refine jr (i:=0) (vs:=[(vi 11),(.func (.func 90) #[] #[f])]) q07 rfl rfl rfl rfl rfl rfl (qc rfl (qc rfl jq)) ?_;refine qw (zk (qi znu rfl) (zk (qj (i:=0) q4o rfl rfl rfl) ?_));obtain⟨ab,K,a⟩:=zq a
 refine zky (cs:=[f]) (vs:=[]) rfl q8s rfl rfl (zdi (F.mono d) K) fun ac ad j L=>?_;obtain rfl:=L;refine zk (z0g rfl) (z8 (zu rfl a (fun a=>?_) (fun a=>?_)));refine zi (zk (qi znk rfl) (zk (qj (i:=0) q3s rfl rfl rfl) (zh (vi 11) (z8 (ql ?_)))));obtain rfl:=Option.some.inj a
 refine q8 (D:=[]) (J:=[box s [(vi 11),(.func (.func 90) #[] #[f])] 121,box l [(vi 9),(.func (.func 88) #[] #[c])] 121]) (rs:=[.tmp 2]) (vs:=[(vi 11)]) ((((e.trans b).trans h).trans d).trans j) rfl rfl ⟨rfl,trivial⟩ ?_;exact⟨rfl,rfl⟩
 refine qa (zn (zk (jh rfl rfl (by decide)) (zf (vi 2) (z8 (z9i ?_)))));refine zi (zk (j3 rfl rfl) (z8 (zw ?_)));refine zfz rfl (fun t=>?_) (fun t=>absurd t (by decide));clear t
 refine qa (zw (zx (zi (zk (zgx (v:=(.agg #[(vi 9),(.func (.func 88) #[] #[c]),(vi 11),(.func (.func 90) #[] #[f]),(vi 12),(.func (.func 92) #[] #[g])])) (i:=(vi 2)) (u:=(.agg #[(vi 12),(.func (.func 92) #[] #[g])])) rfl rfl (fun w=>by kernel_rfl)) (ko rfl zyx fun z=>?_)))))
 refine jr (i:=0) (vs:=[(vi 12),(.func (.func 92) #[] #[g])]) q07 rfl rfl rfl rfl rfl rfl (qc rfl (qc rfl jq)) ?_;refine qw (zk (qi znu rfl) (zk (qj (i:=0) q4o rfl rfl rfl) ?_));obtain⟨ae,M,a⟩:=zq a
 refine zky (cs:=[g]) (vs:=[]) rfl q7v rfl rfl (zdh (G.mono (d.trans j)) M) fun af ag n O=>?_;obtain rfl:=O;refine zk (z0g rfl) (z8 (zu rfl a (fun a=>?_) (fun a=>?_)));refine zi (zk (qi znk rfl) (zk (qj (i:=0) q3s rfl rfl rfl) (zh (vi 12) (z8 (ql ?_)))))
 obtain rfl:=Option.some.inj a;refine q8 (D:=[]) (J:=[box z [(vi 12),(.func (.func 92) #[] #[g])] 121,box s [(vi 11),(.func (.func 90) #[] #[f])] 121,box l [(vi 9),(.func (.func 88) #[] #[c])] 121]) (rs:=[.tmp 2]) (vs:=[(vi 12)]) (((((e.trans b).trans h).trans d).trans j).trans n) rfl rfl ⟨rfl,trivial⟩ ?_
 exact⟨rfl,rfl⟩;refine qa (zn (zk (jh rfl rfl (by decide)) (zf (vi 3) (z8 (z9i ?_)))));refine zi (zk (j3 rfl rfl) (z8 (zw (zfz rfl (fun x=>absurd x (by decide)) (fun x=>?_)))));clear x;refine jk ?_;refine zi (zh (vi 0) (z8 (ql ?_)));obtain rfl:=Option.some.inj a
 refine q8 (D:=[]) (J:=[box z [(vi 12),(.func (.func 92) #[] #[g])] 121,box s [(vi 11),(.func (.func 90) #[] #[f])] 121,box l [(vi 9),(.func (.func 88) #[] #[c])] 121]) (rs:=[.tmp 2]) (vs:=[(vi 0)]) (((((e.trans b).trans h).trans d).trans j).trans n) rfl rfl ⟨rfl,trivial⟩ ?_;exact⟨rfl,rfl⟩
theorem q8u:Enters prog 56:=enters_of func56 rfl (by kernel_rfl)
theorem z92{N:Nat}{R:RH}{m:Mach}{d:Value}(e:VRep (jm false false) R d m){r:Int}(a:z1z N m=some r):CallP prog 31 #[d] R (fun v R'=>v=(vi r)):=by
 refine qd (args:=[d]) func31 rfl rfl fun A=>?_;rw [z1z] at a;refine zi (ky (T:=(jm false false)) rfl rfl rfl e fun q s c i j=>?_);refine zh (vi 0) (z8 (zw (zi (zk (jy z1b rfl rfl i (e.mono c)) ?_))));obtain⟨f,k,a⟩:=zq a
 refine jd rfl q8u rfl (zem (e.mono c) k) fun t l b n=>?_;obtain rfl:=n;refine zh (vi f) (qw (zf (vi f) (zk (pg rfl rfl) (z8 (zu rfl a (fun a=>?_) (fun a=>?_))))));refine zi (zf (vi f) (zh (vi f) (z8 (ql ?_))));obtain rfl:=Option.some.inj a
 refine q8 (D:=[]) (J:=[]) (rs:=[.tmp 2]) (vs:=[(vi f)]) (c.trans b) rfl rfl ⟨rfl,trivial⟩ ?_;exact⟨rfl,rfl⟩;refine qa (zw (zi (je rfl xe ui rfl (j.mono b) fun o g=>?_)));refine qh rfl z3h rfl g fun p h=>?_
 refine zk (qo rfl underlying28 rfl (ja h)) (zk (z6f rfl rfl) (z8 (zu rfl a (fun a=>?_) (fun a=>?_))));refine zi (zh (vi 3) (z8 (ql ?_)));obtain rfl:=Option.some.inj a;refine q8 (D:=[]) (J:=[]) (rs:=[.tmp 2]) (vs:=[(vi 3)]) (c.trans b) rfl rfl ⟨rfl,trivial⟩ ?_;exact⟨rfl,rfl⟩
 refine qa (zi (zh (vi 0) (z8 (ql ?_))));obtain rfl:=Option.some.inj a;refine q8 (D:=[]) (J:=[]) (rs:=[.tmp 2]) (vs:=[(vi 0)]) (c.trans b) rfl rfl ⟨rfl,trivial⟩ ?_;exact⟨rfl,rfl⟩
theorem q37:Enters prog 31:=enters_of func31 rfl (by kernel_rfl)
theorem zww: ∀ w,∃ z,(zeroValue 92).run prog w= .ok z w∧z.cells=((qz (ah 6 (List.replicate 6 (0:Int))))).toArray:=fun w=>⟨(.agg #[(.int .u16 0),(.int .u16 0),(.int .u16 0),(.int .u16 0),(.int .u16 0),(.int .u16 0)]),by kernel_rfl,by kernel_rfl⟩
theorem zs6:ArrOk prog 92 6 1:=zcs (e:=71) underlying92 (fun w=>by kernel_rfl)
theorem zxb: ∀ w,(sizeOf 71).run prog w= .ok 1 w:=fun w=>by kernel_rfl
theorem zfr: ∀ w,(isAgg 92).run prog w= .ok true w:=fun w=>by kernel_rfl
theorem z9v: ∀ w,(sizeOf 92).run prog w= .ok 6 w:=fun w=>by kernel_rfl
theorem zjx{N:Nat}{R:RH}{n:Int}{r:(Arr 6 Int)}(c:z6b N n=some r):CallP prog 58 #[(vi n)] R (fun v R'=>v=(j4 r)):=by
 refine qd (args:=[(vi n)]) func58 rfl rfl fun A=>?_;rw [z6b] at c;refine zi (ko rfl zww fun l=>?_);refine z8 ?_;obtain⟨d,a,c⟩:=zq c;refine qm (γ:=((Arr 6 Int))) (rs [3,18]) (fun g=>[]) (fun g=>[box l (qz g) 92]++A) (fun g R=>d=g∧True) ?_ ?_
 refine zi (zf (vi n) (zf (vi 0) (z8 (zx (jb (γ:=Nat×Int×((Arr 6 Int))) (rs [3,4,5,18]) (fun g=>[(5,(vi g.2.1))]) (fun g=>[box l (qz g.2.2) 92]++A) (fun g R=>pq N n g.1 g.2.1 g.2.2=some d∧True) (fun g=>g.1) (N,0,(ah 6 (List.replicate 6 (0:Int)))) prm ⟨a,trivial⟩ ?_)))));clear a
 rintro⟨k,b,f⟩ y E h ⟨a,_⟩;rcases k with _|k;exact qp a;replace a:pq N n (k+1) b f=some d:=a;rw [pq] at a;refine zi (zk (j3 rfl rfl) (z8 (zw (zu rfl a (fun a=>?_) (fun a=>?_)))))
 refine qa (zw (zx (zi (zf (vi b) (zh (vi b) (z8 (zn (zf (vi b) (zf (vi b) (zk (zei underlying3 underlying71 rfl) ?_))))))))));obtain⟨m,a⟩:=zb a;refine zk (z7j rfl rfl m) (zf (vi n) ?_);obtain⟨p,a⟩:=zb a
 refine zk (z7j rfl rfl p) (zk (ziq rfl rfl) ?_);obtain⟨s,a⟩:=zb a;refine zk (zfs rfl rfl s) ?_;obtain⟨e,a⟩:=zb a
 refine zk (z05 (i:=b.toNat) zs6 rfl (zg rfl e.1) (Nat.lt_of_lt_of_eq (zy e) f.2)) (z7f (sz:=1) (cl:=(fun x:Int=>[Value.int .u16 x])) (z:=ior (l9 .u16 (IntKind.u16.wrap b) (8:Int)) (IntKind.u16.wrap ((l9 .u16 (1:Int) n)-1))) (vs:=[(.int .u16 (ior (l9 .u16 (IntKind.u16.wrap b) (8:Int)) (IntKind.u16.wrap ((l9 .u16 (1:Int) n)-1))))]) (q:=b) (i:=b.toNat) (o:=0) (j:=0) (X:=f) cells_int.len zxb rfl rfl (by omega) rfl (Nat.lt_of_lt_of_eq (zy e) f.2) rfl rfl rfl (qc rfl jq) rfl rfl ?_)
 refine z8 (zn ?_);obtain⟨t,a⟩:=zb a;refine zk (jh rfl rfl t) (zf (vi (b+1)) (z8 ?_));exact⟨dkt,(RH.le.refl _),jl,(k,b+1,(sw f b (ior (l9 .u16 (IntKind.u16.wrap b) (8:Int)) (IntKind.u16.wrap ((l9 .u16 (1:Int) n)-1))))),Nat.lt_succ_self _,⟨rfl,trivial⟩,prm,a,trivial⟩;refine jk ?_
 exact⟨dkt,h,jl,f,trivial,prm,(Option.some.inj a).symm,trivial⟩;rintro d B F u ⟨rfl,_⟩;refine zi (zk (ng (j:=0) (v:=(j4 d)) zfr z9v rfl rfl (co_A6tIntu16.len _) rfl) (iw (j:=0) (cs:=(qz d)) (cs':=(qz d)) z9v rfl rfl (co_A6tIntu16.len _) (co_A6tIntu16.len _) rfl rfl (z0y (z1q _)) ?_))
 refine z8 (ql ?_);obtain rfl:=Option.some.inj c;refine q8 (D:=[]) (J:=[box l (qz d) 92]) (rs:=[.cell 2 92]) (vs:=[(j4 d)]) u rfl rfl ⟨⟨_,rfl,fun w C=>z6x (i:=0) C rfl zfr z9v (co_A6tIntu16.len _)⟩,trivial⟩ ?_;exact⟨rfl,rfl⟩
end GV
end Go.Proofs.Ytnnobdkjgafdmaa
