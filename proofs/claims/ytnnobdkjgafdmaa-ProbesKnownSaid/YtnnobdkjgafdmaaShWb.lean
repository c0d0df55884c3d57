import Derived.Test.YtnnobdkjgafdmaaShWa
import Derived.Test.YtnnobdkjgafdmaaRows
set_option linter.unusedVariables false
set_option linter.unusedSimpArgs false
set_option linter.unusedSectionVars false
namespace Go.Proofs.Ytnnobdkjgafdmaa
namespace GV
open _root_.Go.Proofs.Try
open Go.IntWalk
set_option maxRecDepth 100000
set_option maxHeartbeats 20000000
theorem zpn:Enters prog 87:=enters_of func87 rfl (by kernel_rfl)
theorem z8w{N:Nat}{R:RH}{x:Edge}{p0_:Mach}{a:Value}(c:PRep (jg false false) R a p0_){r:Bool}(b:z2q N x p0_=some r):CallP prog 86 #[(ic x),a] R (fun v R'=>v=(.bool r)):=by
 refine qd (args:=[(ic x),a]) func86 rfl rfl fun A=>?_;rw [z2q] at b;refine zk (z8i (T:=kEdge) rfl rfl (gm.2 rfl) fun n o d i=>?_);refine zh (.bool false) (j3 (qg rfl z0b rfl (c.mono d) fun p j=>?_));refine qg rfl z9x rfl i fun q k=>?_;obtain rfl:=gm.1 k
 obtain⟨h,f,b⟩:=zn b;refine ja rfl zpn rfl (zbf j f) fun l m e g=>?_;obtain rfl:=g;refine zl (bz rfl) (zh (.bool (!h)) (z8 (qh ?_)));obtain rfl:=Option.some.inj b;refine zy (D:=[]) (J:=[]) (rs:=[.tmp 3]) (vs:=[(.bool (!h))]) (d.trans e) rfl rfl ⟨rfl,trivial⟩ ?_;exact⟨rfl,rfl⟩
theorem zq9:Enters prog 86:=enters_of func86 rfl (by kernel_rfl)
theorem z0z{N:Nat}{R:RH}{m:Mach}{q:Value}(F:VRep (jg false false) R q m){r:Int}(b:r9 N m=some r):CallP prog 75 #[q] R (fun v R'=>v=(vi r)):=by
 refine qd (args:=[q]) func75 rfl rfl fun A=>?_;rw [r9] at b;refine zk (u7 (T:=(jg false false)) rfl rfl rfl F fun E R3 k h5 l=>?_);refine zh (vi 0) (z8 (zo (zk (zd9 rfl (uf z2g ae rfl l) fun v6 h7=>?_))))
 refine qo rfl (vv (jq ty3 rfl h7)) (qo rfl (l6 rfl rfl) (qo (v:=(.bool (decide (16<m.inputs)))) rfl (za rfl) (qa rfl rfl rfl rfl (fun c=>uf z7h z3j rfl l) fun al G=>?_)));refine qa rfl rfl rfl rfl (fun c=>zx (vv (jq ty3 rfl (G.1 (zf rfl c))))) fun am H=>?_
 refine qa rfl rfl rfl rfl (fun c=>zx (l6 (H.1 (zf rfl c)) rfl)) fun an I=>?_;refine qo rfl (um rfl rfl (fun n=>(I.1 (zf rfl n)))) (qo (v:=(.bool ((decide (16<m.inputs))||(decide (16<m.outputs))))) rfl (za rfl) (qa rfl rfl rfl rfl (fun c=>uf w9 kw rfl l) fun ao K=>?_))
 refine qa rfl rfl rfl rfl (fun c=>jq ik rfl (K.1 (zf rfl c))) fun ap L=>?_;refine qa rfl rfl rfl rfl (fun c=>zx (qj rfl underlying28 rfl (jc (L.1 (zf rfl c))))) fun aq M=>?_;refine qa rfl rfl rfl rfl (fun c=>zx (l6 (M.1 (zf rfl c)) rfl)) fun ar O=>?_
 refine qo rfl (um rfl rfl (fun n=>(O.1 (zf rfl n)))) (z8 (zq rfl b (fun b=>?_) (fun b=>?_)));refine zk (zh (vi 3) (z8 (qh ?_)));obtain rfl:=Option.some.inj b;refine zy (D:=[]) (J:=[]) (rs:=[.tmp 2]) (vs:=[(vi 3)]) k rfl rfl ⟨rfl,trivial⟩ ?_;exact⟨rfl,rfl⟩
 refine zz (zo (zk (zd9 rfl (uf z2g ae rfl l) fun au P=>?_)));refine qo rfl (vv (jq ty3 rfl P)) (qo rfl (j5 rfl rfl) (qo (v:=(.bool (decide (m.inputs<1)))) rfl (za rfl) (qa rfl rfl rfl rfl (fun c=>uf z7h z3j rfl l) fun av Q=>?_)))
 refine qa rfl rfl rfl rfl (fun c=>zx (vv (jq ty3 rfl (Q.1 (zf rfl c))))) fun aw S=>?_;refine qa rfl rfl rfl rfl (fun c=>zx (j5 (S.1 (zf rfl c)) rfl)) fun ax U=>?_
 refine qo rfl (um rfl rfl (fun n=>(U.1 (zf rfl n)))) (qo (v:=(.bool ((decide (m.inputs<1))||(decide (m.outputs<1))))) rfl (za rfl) (qa rfl rfl rfl rfl (fun c=>uf w9 kw rfl l) fun ay V=>?_));refine qa rfl rfl rfl rfl (fun c=>jq ik rfl (V.1 (zf rfl c))) fun az W=>?_
 refine qa rfl rfl rfl rfl (fun c=>zx (qj rfl underlying28 rfl (jc (W.1 (zf rfl c))))) fun aA X=>?_;refine qa rfl rfl rfl rfl (fun c=>zx (j5 (X.1 (zf rfl c)) rfl)) fun aB Y=>?_;refine qo rfl (um rfl rfl (fun n=>(Y.1 (zf rfl n)))) (z8 (zq rfl b (fun b=>?_) (fun b=>?_)))
 refine zk (zh (vi 1) (z8 (qh ?_)));obtain rfl:=Option.some.inj b;refine zy (D:=[]) (J:=[]) (rs:=[.tmp 2]) (vs:=[(vi 1)]) k rfl rfl ⟨rfl,trivial⟩ ?_;exact⟨rfl,rfl⟩;refine zz ?_;obtain⟨s,a,b⟩:=zn b;refine j4 (γ:=Unit) (rs [2,3,4,5,33,51]) (fun g=>[]) (fun g=>[]++A) (fun g R=>s=Ex.go g∧True) ?_ ?_
 refine zk (jb rfl w9 kw rfl l fun aC Z=>?_);refine qg rfl ik rfl Z fun aD t=>?_
 refine zl (qj rfl underlying28 rfl (jc t)) (zg (vi 0) (z8 (zw (jd (γ:=Nat×Int) (rs [2,3,4,5,36,51]) (fun g=>[(36,(vi g.2))]) (fun g=>[]++A) (fun g R=>oz N m g.1 g.2=some s∧True) (fun g=>g.1) (N,0) prm ⟨a,trivial⟩ ?_))));clear a;rintro⟨o,e⟩ ai aE d ⟨a,_⟩;rcases o with _|o
 exact qy a;replace a:oz N m (o+1) e=some s:=a;rw [oz] at a;refine zk (zl (j5 rfl rfl) (z8 (zo (zq rfl a (fun a=>?_) (fun a=>?_)))));refine zz (zo (zw (zk ?_)));obtain⟨u,a⟩:=ze a
 refine ku (i:=e.toNat) rfl z7p rfl (jc (t.mono d)) (zi rfl u.1) (qc u) fun aF aa=>?_;refine qg rfl z7d rfl aa fun p w=>?_;refine zh p (j3 (qo (v:=p) rfl (za rfl) (qo rfl (qj rfl underlying58 rfl (jc w)) (zd9 rfl (uf z2g ae rfl (l.mono d)) fun aG ab=>?_))))
 refine qo rfl (vv (jq ty3 rfl ab)) (qo rfl (ky rfl rfl) (qo (v:=(.bool (decide ((↑(ix m.rows e).length:Int)≠m.inputs)))) rfl (za rfl) (qa rfl rfl rfl rfl (fun c=>zx (v:=p) (za rfl)) fun aH ac=>?_)))
 refine qa rfl rfl rfl rfl (fun c=>zx (v:=(.func (.func 86) #[] #[E])) (dm (fs:=[]) (cs:=[E]) rfl rfl)) fun aI ad=>?_;obtain⟨af,ag,a⟩:=zn a
 refine iq rfl rfl rfl rfl (fun c=>ww (vs:=[p,(.func (.func 86) #[] #[E])]) zq7 (z1u (ac.1 (zf rfl c)) (z1u (ad.1 (zf rfl c)) rfl)) ((by have ah:=(mf ag (zf rfl c));exact z2p w (zhh (cs:=[E]) zq9 fun R1 hq z0 u0 y k0 hy=>by obtain rfl:=gm.1 k0;exact CallP.mono (z8w ((l.mono d).mono hq) hy) fun v R2 _ hv=>cu.2 hv) ah)) (fun _ _ h=>h)) fun x z f j=>?_
 replace j:phG (true&&((decide ((↑(ix m.rows e).length:Int)≠m.inputs))==false)) (phX (.bool (af.getD default))) x z:=j;refine qo rfl (um rfl rfl (fun n=>(j.1 (zf rfl n)))) (z8 (zq rfl a (fun a=>?_) (fun a=>?_)));refine zk (zh (vi 1) (z8 (qh ?_)));replace b:=bv a b;obtain rfl:=Option.some.inj b
 refine zy (D:=[]) (J:=[]) (rs:=[.tmp 2]) (vs:=[(vi 1)]) ((k.trans d).trans f) rfl rfl ⟨rfl,trivial⟩ ?_;exact⟨rfl,rfl⟩;refine zz (zm ?_);obtain⟨B,a⟩:=ze a;refine zl (jk rfl rfl B) (zg (vi (e+1)) (z8 ?_));exact⟨dkt,f,kg,(o,e+1),Nat.lt_succ_self _,⟨rfl,trivial⟩,prm,a,trivial⟩
 refine je ?_;exact⟨dkt,d,kg,(),trivial,prm,(Option.some.inj a).symm,trivial⟩;rintro aN aj aO C ⟨rfl,_⟩;replace b:=mg b;refine zk (zh (vi 0) (z8 (qh ?_)));obtain rfl:=Option.some.inj b;refine zy (D:=[]) (J:=[]) (rs:=[.tmp 2]) (vs:=[(vi 0)]) (k.trans C) rfl rfl ⟨rfl,trivial⟩ ?_;exact⟨rfl,rfl⟩
theorem zl7:Enters prog 75:=enters_of func75 rfl (by kernel_rfl)
theorem zos: ∀ w,∃ z,(zeroValue 122).run prog w= .ok z w∧z.cells=([.int .i64 0,.nilFunc,.int .i64 0,.nilFunc,.int .i64 0,.nilFunc]:List Value).toArray:=fun w=>⟨(.agg #[(vi 0),.nilFunc,(vi 0),.nilFunc,(vi 0),.nilFunc]),by kernel_rfl,rfl⟩
theorem zm3: ∀ w,(sizeOf 122).run prog w= .ok 6 w:=fun w=>by kernel_rfl
theorem znw: ∀ w,(isAgg 122).run prog w= .ok true w:=fun w=>by kernel_rfl
theorem za7{N:Nat}{R:RH}{m:Mach}{b:Value}(d:VRep (jg false false) R b m){r:Mach×Mach×Mach}(c:z3m N m=some r):CallP prog 76 #[b] R (fun v R'=> ∃ u0 g h,v= .agg #[(vi 9),.func (.func 88) #[] #[u0],(vi 11),.func (.func 90) #[] #[g],(vi 12),.func (.func 92) #[] #[h]]∧PRep (jg false false) R' u0 r.1∧PRep (jg false false) R' g r.2.1∧PRep (jg false false) R' h r.2.2):=by
 refine qd (args:=[b]) func76 rfl rfl fun A=>?_;rw [z3m] at c;refine zk (u7 (T:=(jg false false)) rfl rfl rfl d fun a l e n f=>?_);refine jy rfl zos fun j=>?_
 refine j3 (zl (dm (fs:=[]) (cs:=[a]) rfl rfl) (zl (jl (ps:=[(0,(vi 9)),(1,(.func (.func 88) #[] #[a]))]) (v:=(.agg #[(vi 9),(.func (.func 88) #[] #[a])])) rfl (fun w=>by kernel_rfl)) (zl (dm (fs:=[]) (cs:=[a]) rfl rfl) (zl (jl (ps:=[(0,(vi 11)),(1,(.func (.func 90) #[] #[a]))]) (v:=(.agg #[(vi 11),(.func (.func 90) #[] #[a])])) rfl (fun w=>by kernel_rfl)) (zl (dm (fs:=[]) (cs:=[a]) rfl rfl) (zl (jl (ps:=[(0,(vi 12)),(1,(.func (.func 92) #[] #[a]))]) (v:=(.agg #[(vi 12),(.func (.func 92) #[] #[a])])) rfl (fun w=>by kernel_rfl)) (zl (jl (ps:=[(0,(.agg #[(vi 9),(.func (.func 88) #[] #[a])])),(1,(.agg #[(vi 11),(.func (.func 90) #[] #[a])])),(2,(.agg #[(vi 12),(.func (.func 92) #[] #[a])]))]) (v:=(.agg #[(vi 9),(.func (.func 88) #[] #[a]),(vi 11),(.func (.func 90) #[] #[a]),(vi 12),(.func (.func 92) #[] #[a])])) rfl (fun w=>by kernel_rfl)) (ko (i:=0) (vs:=[(vi 9),(.func (.func 88) #[] #[a]),(vi 11),(.func (.func 90) #[] #[a]),(vi 12),(.func (.func 92) #[] #[a])]) zm3 rfl rfl rfl rfl rfl rfl (qb rfl (qb rfl (qb rfl (qb rfl (qb rfl (qb rfl jr)))))) ?_))))))))
 refine z8 (qh ?_);obtain rfl:=Option.some.inj c
 refine zy (D:=[]) (J:=[box j [(vi 9),(.func (.func 88) #[] #[a]),(vi 11),(.func (.func 90) #[] #[a]),(vi 12),(.func (.func 92) #[] #[a])] 122]) (rs:=[.cell 2 122]) (vs:=[(.agg #[(vi 9),(.func (.func 88) #[] #[a]),(vi 11),(.func (.func 90) #[] #[a]),(vi 12),(.func (.func 92) #[] #[a])])]) e rfl rfl ⟨⟨_,rfl,fun w k=>z0v (i:=0) k rfl rfl znw zm3 rfl rfl⟩,trivial⟩ ?_
 exact⟨rfl,⟨a,a,a,rfl,f,f,f⟩⟩
theorem zq4:Enters prog 76:=enters_of func76 rfl (by kernel_rfl)
theorem zk6: ∀ w,∃ z,(zeroValue 121).run prog w= .ok z w∧z.cells=([.int .i64 0,.nilFunc]:List Value).toArray:=fun w=>⟨(.agg #[(vi 0),.nilFunc]),by kernel_rfl,rfl⟩
theorem zj4: ∀ w,(sizeOf 121).run prog w= .ok 2 w:=fun w=>by kernel_rfl
theorem zeh:FieldOk prog 121 1 1:=by
 obtain⟨i,hi,a⟩: ∃ i,prog.info? 41=some i∧i.size=1:=uu (by kernel_rfl);exact pq underlying121 rfl rfl hi (by rw [a];rfl)
theorem zmd: ∀ w,(isAgg 41).run prog w= .ok false w:=fun w=>by kernel_rfl
theorem znp: ∀ w,∃ z,(zeroValue 146).run prog w= .ok z w∧z.cells=([.slice none 0 0]:List Value).toArray:=fun w=>⟨vs0,by kernel_rfl,rfl⟩
theorem zau{N:Nat}{R:RH}{m:Mach}{a:Value}(d:VRep (jg false false) R a m){r:Mach}(b:z4t N m=some r):CallP prog 106 #[a] R (fun v R'=> ∃ u0,v= .func (.func 112) #[] #[u0]∧PRep (jg false false) R' u0 r):=by
 refine qd (args:=[a]) func106 rfl rfl fun A=>?_;rw [z4t] at b;refine zk (u7 (T:=(jg false false)) rfl rfl rfl d fun c g e h f=>?_);refine zh .nilFunc (j3 (zl (dm (fs:=[]) (cs:=[c]) rfl rfl) (zh (.func (.func 112) #[] #[c]) (z8 (qh ?_)))));obtain rfl:=Option.some.inj b
 refine zy (D:=[]) (J:=[]) (rs:=[.tmp 2]) (vs:=[(.func (.func 112) #[] #[c])]) e rfl rfl ⟨rfl,trivial⟩ ?_;exact⟨rfl,⟨c,rfl,f⟩⟩
theorem znx:Enters prog 106:=enters_of func106 rfl (by kernel_rfl)
theorem z9b{N:Nat}{R:RH}{p0_:Mach}{e:Value}(r:PRep (jg false false) R e p0_):zhl prog 112 [e] R (fun(x:((Int×Int)×Edge)) vs R=>vs=[(zdb x.1),(ic x.2)]) (fun σ B s=>z2w N p0_ σ B s):=by
 intro yv σ B I R1 O s0 Y C ac h0 c hy;refine z1p (args:=[yv,e]) func112 rfl rfl fun A=>?_;dsimp only at c;rw [z2w] at c;refine zk (jb rfl w9 kw rfl (r.mono C) fun v1 h2=>?_);refine qg rfl ik rfl h2 fun v3 Z=>?_
 refine zl (qj rfl underlying28 rfl (jc Z)) (zg (vi 0) (z8 (zw (jd (γ:=Nat×σ×Int×(List Frag)) (rs [3,7,10,31]) (fun g=>[(10,(vi g.2.2.1))]) (fun g=>[]++(g.2.2.2++A)) (fun g R=>nz N σ B p0_ g.1 g.2.1 g.2.2.1=some Y∧I g.2.1 R g.2.2.2∧True) (fun g=>g.1) (N,s0,0,O) prm ⟨c,h0,trivial⟩ ?_))));clear c
 rintro⟨P,x6,d,k⟩ ag R8 h ⟨c,l,_⟩;rcases P with _|P;exact qy c;replace c:nz N σ B p0_ (P+1) x6 d=some Y:=c;rw [nz] at c;refine zk (zl (j5 rfl rfl) (z8 (zo (zq rfl c (fun c=>?_) (fun c=>?_)))));refine zz ?_;obtain⟨t,b,c⟩:=zn c
 refine j4 (γ:=σ×(List Frag)) (rs [3,7,12,30]) (fun g=>[]) (fun g=>[]++(g.2++A)) (fun g R=>t=Ex.go g.1∧I g.1 R g.2∧True) ?_ ?_;refine zw (zk (zg (vi d) ?_));obtain⟨E,b⟩:=ze b;refine ku (i:=d.toNat) rfl z7p rfl (jc (Z.mono h)) (zi rfl E.1) (qc E) fun ah Q=>?_
 refine qg rfl z7d rfl Q fun F G=>?_
 refine zh (vi d) (zh F (j3 (zg F (zl (qj rfl underlying58 rfl (jc G)) (zg (vi 0) (z8 (zw (jd (γ:=Nat×σ×Int×(List Frag)) (rs [5,7,17,30]) (fun g=>[(17,(vi g.2.2.1))]) (fun g=>[]++(g.2.2.2++A)) (fun g R=>ng N σ B p0_ d g.1 g.2.1 g.2.2.1=some t∧I g.2.1 R g.2.2.2∧True) (fun g=>g.1) (N,x6,0,k) prm ⟨b,l,trivial⟩ ?_))))))))
 clear b;rintro⟨j,u,a,m⟩ ai aj f ⟨b,n,_⟩;rcases j with _|j;exact qy b;replace b:ng N σ B p0_ d (j+1) u a=some t:=b;rw [ng] at b;refine zk (zl (j5 rfl rfl) (z8 (zo (zq rfl b (fun b=>?_) (fun b=>?_)))))
 refine zz (zo (zw (zk (zg (vi a) ?_))));obtain⟨H,b⟩:=ze b;refine ku (i:=a.toNat) rfl z8n rfl (jc (G.mono f)) (zi rfl H.1) (qc H) fun ak S=>?_;refine qg rfl z9x rfl S fun al T=>?_;obtain rfl:=gm.1 T;refine jy rfl za2 fun y=>?_
 refine zh (vi a) (ko (i:=0) (vs:=[(vi ((ix (ix p0_.rows d) a).to)),(vi ((ix (ix p0_.rows d) a).out))]) z8z rfl rfl rfl rfl rfl rfl (qb rfl (qb rfl jr)) ?_)
 refine j3 (zg yv (zg (vi d) (zg (vi a) (zl (jl (ps:=[(0,(vi d)),(1,(vi a))]) (v:=(.agg #[(vi d),(vi a)])) rfl (fun w=>by kernel_rfl)) (zl (jm (i:=0) zmp z8z rfl rfl rfl rfl) ?_)))));obtain⟨z,U,b⟩:=zn b
 refine zaw (vs:=[(.agg #[(vi d),(vi a)]),(.agg #[(vi ((ix (ix p0_.rows d) a).to)),(vi ((ix (ix p0_.rows d) a).out))])]) (J:=[box y [(vi ((ix (ix p0_.rows d) a).to)),(vi ((ix (ix p0_.rows d) a).out))] 57]) (Oc:=m) (A:=A) rfl rfl rfl rfl (hy (((d,a):(Int×Int)),(⟨(ix (ix p0_.rows d) a).to,(ix (ix p0_.rows d) a).out⟩:Edge)) u z.1 z.2 _ _ [(.agg #[(vi d),(vi a)]),(.agg #[(vi ((ix (ix p0_.rows d) a).to)),(vi ((ix (ix p0_.rows d) a).out))])] (h.trans f) rfl n U) fun am o p q=>?_
 refine zl (bz rfl) (z8 (zq rfl b (fun b=>?_) (fun b=>?_)));refine qh ?_;replace c:=bv b c;obtain rfl:=Option.some.inj c;refine z07 (D:=[]) (J:=[box y [(vi ((ix (ix p0_.rows d) a).to)),(vi ((ix (ix p0_.rows d) a).out))] 57]) (O':=o) (rs:=[]) (vs:=[]) ((h.trans f).trans p) (List.Perm.refl _) rfl trivial ?_
 exact q;refine zz (zm ?_);obtain⟨V,b⟩:=ze b;refine zl (jk rfl rfl V) (zg (vi (a+1)) (z8 ?_));exact⟨dkt,p,kg,(j,z.2,a+1,o),Nat.lt_succ_self _,⟨rfl,trivial⟩,⟨[box y [(vi ((ix (ix p0_.rows d) a).to)),(vi ((ix (ix p0_.rows d) a).out))] 57],(List.Perm.refl _)⟩,b,q,trivial⟩
 refine je ?_;exact⟨dkt,f,kg,(u,m),trivial,prm,(Option.some.inj b).symm,n,trivial⟩;rintro⟨W,K⟩ an ao L ⟨rfl,M,_⟩;replace c:=mg c;refine zm ?_;obtain⟨X,c⟩:=ze c;refine zl (jk rfl rfl X) (zg (vi (d+1)) (z8 ?_))
 exact⟨dkt,L,kg,(P,W,d+1,K),Nat.lt_succ_self _,⟨rfl,trivial⟩,prm,c,M,trivial⟩;refine je ?_;show zad _ _ _ _ _ .ret _ [] _ _;obtain rfl:=Option.some.inj c;refine z07 (D:=[]) (J:=[]) (O':=k) (rs:=[]) (vs:=[]) h (List.Perm.refl _) rfl trivial ?_;exact l
theorem znb:Enters prog 112:=enters_of func112 rfl (by kernel_rfl)
theorem zop: ∀ w,∃ z,(zeroValue 158).run prog w= .ok z w∧z.cells=([.int .i64 0,.int .i64 0]:List Value).toArray:=fun w=>⟨(.agg #[(vi 0),(vi 0)]),by kernel_rfl,rfl⟩
theorem zj7: ∀ w,(sizeOf 158).run prog w= .ok 2 w:=fun w=>by kernel_rfl
theorem zls: ∀ w,(isAgg 146).run prog w= .ok false w:=fun w=>by kernel_rfl
theorem zo8: ∀ w,(isAgg 158).run prog w= .ok true w:=fun w=>by kernel_rfl
theorem zlw:ZeroOk prog 158 kA2tInti64 (((0:Int),(0:Int)):(Int×Int)) 16:=by
 obtain⟨i,zv,hi,a,c,d,f⟩:=rf (P:=prog) (e:=158) (zv:=(.agg #[(vi 0),(vi 0)])) (k:=2) (b:=16) (by kernel_rfl);exact⟨i,zv,hi,a,c,d,fun R=>by subst f;exact⟨_,_,rfl,rfl,rfl⟩⟩
theorem zol: ∀ w,(sizeOf 146).run prog w= .ok 1 w:=fun w=>by kernel_rfl
theorem zot:TyOk prog 158 kA2tInti64:=by
 obtain⟨i,hi,a⟩: ∃ i,prog.info? 158=some i∧i.size=2:=uu (by kernel_rfl);exact l5 underlying158 hi rfl a
theorem zoa:SlOk prog 146 158 kA2tInti64:=⟨underlying146,zot⟩
theorem z7x{N:Nat}{R:RH}{s:(List (Int×Int))}{a:Value}(b:VRep (tSl false kA2tInti64) R a s){r:(List (Int×Int))}(c:z1h N s=some r):CallP prog 107 #[a] R (fun v R'=>VRep (tSl true kA2tInti64) R' v r):=by
 refine qd (args:=[a]) func107 rfl rfl fun A=>?_;rw [z1h] at c;refine zk (zh vs0 (j3 (zg a (zg a (zl (qj rfl underlying146 rfl (jc b)) (zg a (zl (qj rfl underlying146 rfl (jc b)) ?_)))))));obtain⟨d,c⟩:=ze c
 refine zb0 (v:=a) (lo:=(0:Int).toNat) (hi:=(↑s.length:Int).toNat) (mx:=(↑s.length:Int).toNat) rfl zoa rfl (jc b) (.inl ⟨rfl,rfl⟩) (.inr ⟨_,congrArg some (zi rfl (zcw d))⟩) (.inr ⟨_,congrArg some (zi rfl (zcw d))⟩) (zhq d) (zb4 d) (Nat.le_refl _) (Nat.le_trans (zb4 d) (zmo (jc b))) (X':=(cut s 0 (↑s.length:Int))) rfl fun f g e=>?_
 have h:VRep (tSl true kA2tInti64) R f (cut s 0 (↑s.length:Int)):=z0n g (e.trans (zel d).symm);refine zh f (z8 (qh ?_));obtain rfl:=Option.some.inj c;refine zy (D:=[]) (J:=[]) (rs:=[.tmp 2]) (vs:=[f]) (RH.le.refl _) rfl rfl ⟨rfl,trivial⟩ ?_;exact⟨rfl,h⟩
theorem zo1:Enters prog 107:=enters_of func107 rfl (by kernel_rfl)
theorem z7t{N:Nat}{R:RH}{m:Mach}{t:Value}(u:VRep (jg false false) R t m){r:(List (Int×Int))}(d:z1k N m=some r):CallP prog 100 #[t] R (fun v R'=>VRep (tSl true kA2tInti64) R' v r):=by
 refine qd (args:=[t]) func100 rfl rfl fun A=>?_;rw [z1k] at d;refine zk (u7 (T:=(jg false false)) rfl rfl rfl u fun v1 R3 w h5 h2=>?_);refine zh vs0 (j3 (jy rfl znp fun E=>?_));refine z8 (zo (zk (zl (uj z0b rfl rfl h5 (u.mono w)) ?_)));obtain⟨y8,c9,d⟩:=zn d
 refine ja rfl znx rfl (zau (u.mono w) c9) fun aB aC F U=>?_;obtain⟨aD,rfl,V⟩:=U;refine z8 (zw (z6w ?_));obtain⟨W,Z,d⟩:=zn d
 refine zcu (Oc:=[emp,box E [vs0] 146]) (Or:=A) _ (fun(s:List (Int×Int)) R O=> ∃ (e:Value) (f:Frag),(∃ J,O.Perm (J++[box E [e] 146,f]))∧ORep kA2tInti64 R f e s∧True) (fun(s:List (Int×Int)) (c:Code) R O=>False) _ _ rfl znb (z9b (N:=N) V) (List.Perm.refl _) (by decide) (by rintro _ _ _ rfl;rfl) (by rintro s R2 R3 O2 n ⟨e,f,G,o,_⟩;exact⟨e,f,G,o.mono n,trivial⟩) (fun _ _ _ _ _ _ h=>h) (fun _ _ _ _ _ h=>h.elim) ⟨vs0,emp,⟨[],(pk 1 rfl (pk 0 rfl (List.Perm.refl _)))⟩,(z6d (T:=kA2tInti64)),trivial⟩ Z ?_ ?_ ?_
 rintro a aa aE aF ar aG au av aw H ⟨e,f,⟨_,G⟩,o,_⟩ p aH;have b:=p;clear p;(try dsimp only at b);refine z9y (zcr G) ?_;obtain rfl:=H;refine zk (jy rfl zop fun j=>?_);refine ko (i:=0) (vs:=[(vi a.1.1),(vi a.1.2)]) zj7 rfl rfl rfl rfl rfl rfl (qb rfl (qb rfl jr)) ?_
 refine z8 (zm (jy rfl za2 fun k=>?_));refine ko (i:=0) (vs:=[(vi a.2.to),(vi a.2.out)]) z8z rfl rfl rfl rfl rfl rfl (qb rfl (qb rfl jr)) ?_;refine z8 ?_
 refine⟨rfl,rfl,(RH.le.refl _),[box k [(vi a.2.to),(vi a.2.out)] 57,box j [(vi a.1.1),(vi a.1.2)] 158,box E [e] 146,f],List.Perm.refl _,fun aI=>?_⟩;refine zw (zo ?_);obtain⟨x,ab,b⟩:=zn b
 refine ni 3 [] [phX (.agg #[(vi a.2.to),(vi a.2.out)]),phX (ic x),phX (.bool (decide (a.2.to=x.to∧a.2.out=x.out)))] mixed (by kernel_rfl) (bu ⟨q8,q8,q8,trivial⟩) ⟨?_,?_,?_,trivial⟩ fun aJ g=>?_;intro l aK n ha hd;exact zb rfl rfl rfl (qf (jm (i:=0) zmp z8z (ha 5 rfl) rfl rfl rfl))
 intro l aM n ha hd;exact zb rfl rfl rfl (ww (vs:=[]) znz rfl (z6x  ab) (fun _ _ h=>h));rintro l aN n ha ⟨d0,d1,_⟩;exact zb rfl rfl rfl (qf (zey zo2 (d0 rfl) (d1 rfl)));intro aQ ad aR ae aS af;obtain rfl:=Eq.symm ad;obtain rfl:=Eq.symm ae;obtain rfl:=Eq.symm af;refine z8 (zq rfl b (fun b=>?_) (fun b=>?_))
 refine zm (zl (qi (i:=2) zls rfl rfl rfl) (zl (jm (i:=1) zo8 zj7 rfl rfl rfl rfl) (bg (T:=kA2tInti64) (X:=([((a.1.1,a.1.2):(Int×Int))]:List (Int×Int))) (ps:=[(0,(.agg #[(vi a.1.1),(vi a.1.2)]))]) (css:=[[(vi a.1.1),(vi a.1.2)]]) rfl underlying146 zlw rfl rfl (kz ⟨⟨_,_,rfl,rfl,rfl⟩,trivial⟩) rfl rfl (by decide) fun ag aT y ah=>?_)))
 refine wm (i:=0) rfl ah fun ai q aj=>?_;have ak:VRep (tSl true kA2tInti64) ai ag ([((a.1.1,a.1.2):(Int×Int))]:List (Int×Int)):=(z0n aj y);obtain⟨I,b⟩:=ze b
 refine z2s (i:=3) (X:=aa) (Y:=([((a.1.1,a.1.2):(Int×Int))]:List (Int×Int))) rfl underlying146 zlw rfl rfl rfl (o.mono (g.trans q)) (jc (Sub.v (B:=(tSl false kA2tInti64)) (jh Sub.refl (fun _=>rfl)) ak)) I.1 I.2 fun z K C=>?_
 refine ko (i:=2) (vs:=[z]) zol rfl rfl (xm C) rfl rfl rfl (qb (nu C) jr) ?_;refine z8 ?_;obtain⟨rfl,rfl⟩:=Prod.mk.inj (Option.some.inj b)
 exact⟨rfl,(g.trans q),[box k [(vi a.2.to),(vi a.2.out)] 57,box j [(vi a.1.1),(vi a.1.2)] 158,box E [z] 146,K],List.Perm.refl _,rfl,⟨z,K,⟨[box k [(vi a.2.to),(vi a.2.out)] 57,box j [(vi a.1.1),(vi a.1.2)] 158],(List.Perm.refl _)⟩,C,trivial⟩⟩;refine zz ?_
 obtain⟨rfl,rfl⟩:=Prod.mk.inj (Option.some.inj b)
 exact⟨rfl,g,[box k [(vi a.2.to),(vi a.2.out)] 57,box j [(vi a.1.1),(vi a.1.2)] 158,box E [e] 146,f],List.Perm.refl _,rfl,⟨e,f,⟨[box k [(vi a.2.to),(vi a.2.out)] 57,box j [(vi a.1.1),(vi a.1.2)] 158],(List.Perm.refl _)⟩,(o.mono g),trivial⟩⟩
 rintro aU aV ax L ⟨M,aW,⟨_,G⟩,al,_⟩;refine⟨_,_,G,?_⟩;refine zk (zl (qi (i:=0) zls rfl rfl rfl) (wm (i:=1) rfl al fun am P an=>?_));have ao:VRep (tSl false kA2tInti64) am M W:=(z9v an);obtain⟨aX,ap,d⟩:=zn d;refine ja rfl zo1 rfl (z7x ao ap) fun Q aY S aq=>?_
 refine zh Q (z8 (qh ?_));obtain rfl:=Option.some.inj d;refine zy (D:=[]) (J:=[box E [M] 146]) (rs:=[.tmp 2]) (vs:=[Q]) ((((w.trans F).trans L).trans P).trans S) rfl rfl ⟨rfl,trivial⟩ ?_;exact⟨rfl,aq⟩;exact fun _ _ _ _ _ h=>h.elim
theorem zno:Enters prog 100:=enters_of func100 rfl (by kernel_rfl)
theorem z8q{N:Nat}{R:RH}{m:Mach}{e:Value}(d:VRep (jg false false) R e m){r:Bool×Int}(a:z2h N m=some r):CallP prog 89 #[e] R (fun v R'=>v= .tuple #[(.bool r.1),(vi r.2)]):=by
 refine qd (args:=[e]) func89 rfl rfl fun A=>?_;rw [z2h] at a;refine zk (u7 (T:=(jg false false)) rfl rfl rfl d fun s t c k u=>?_);refine zh (.bool false) (zh (vi 0) (z8 (zo (zk (zl (uj z0b rfl rfl k (d.mono c)) ?_)))));obtain⟨f,l,a⟩:=zn a
 refine ja rfl zl7 rfl (z0z (d.mono c) l) fun w n b o=>?_;obtain rfl:=o;refine zh (vi f) (j3 (zg (vi f) (zl (ky rfl rfl) (z8 (zq rfl a (fun a=>?_) (fun a=>?_))))));refine zk (zg (vi f) (zh (.bool false) (zh (vi f) (z8 (qh ?_)))));obtain rfl:=Option.some.inj a
 refine zy (D:=[]) (J:=[]) (rs:=[.tmp 2,.tmp 3]) (vs:=[(.bool false),(vi f)]) (c.trans b) rfl rfl ⟨rfl,rfl,trivial⟩ ?_;exact⟨rfl,rfl⟩;refine zz (zk (zl (uj z0b rfl rfl (k.mono b) (d.mono (c.trans b))) ?_));obtain⟨g,i,a⟩:=zn a
 refine ja rfl zno rfl (z7t (d.mono (c.trans b)) i) fun p q h j=>?_;refine zl (qj rfl underlying146 rfl (jc j)) (zl (uq rfl rfl) (zh (.bool (decide ((↑g.length:Int)=0))) (zh (vi 0) (z8 (qh ?_)))));obtain rfl:=Option.some.inj a
 refine zy (D:=[]) (J:=[]) (rs:=[.tmp 2,.tmp 3]) (vs:=[(.bool (decide ((↑g.length:Int)=0))),(vi 0)]) ((c.trans b).trans h) rfl rfl ⟨rfl,rfl,trivial⟩ ?_;exact⟨rfl,rfl⟩
theorem zp5:Enters prog 89:=enters_of func89 rfl (by kernel_rfl)
theorem z8p{N:Nat}{R:RH}{p0_:Mach}{a:Value}(c:PRep (jg false false) R a p0_){r:Bool}(b:z1t N p0_=some r):CallP prog 88 #[a] R (fun v R'=>v=(.bool r)):=by
 refine qd (args:=[a]) func88 rfl rfl fun A=>?_;rw [z1t] at b;refine zk (zh (.bool false) (j3 (qg rfl z0b rfl c fun i f=>?_)));obtain⟨d,g,b⟩:=zn b;refine ja rfl zp5 rfl (z8q f g) fun j k e h=>?_;obtain rfl:=h
 refine zg (.tuple #[(.bool d.1),(vi d.2)]) (zl (qw rfl rfl) (zl (qw rfl rfl) (zh (.bool d.1) (zh (vi d.2) (j3 (zg (.bool d.1) (zh (.bool d.1) (z8 (qh ?_)))))))));obtain rfl:=Option.some.inj b;refine zy (D:=[]) (J:=[]) (rs:=[.tmp 1]) (vs:=[(.bool d.1)]) e rfl rfl ⟨rfl,trivial⟩ ?_;exact⟨rfl,rfl⟩
theorem zp1:Enters prog 88:=enters_of func88 rfl (by kernel_rfl)
theorem zdw:FieldOk prog 121 0 0:=by
 obtain⟨i,hi,a⟩: ∃ i,prog.info? 33=some i∧i.size=1:=uu (by kernel_rfl);exact pq underlying121 rfl rfl hi (by rw [a];rfl)
theorem zn3: ∀ w,(isAgg 33).run prog w= .ok false w:=fun w=>by kernel_rfl
theorem zn9: ∀ w,∃ z,(zeroValue 117).run prog w= .ok z w∧z.cells=([.slice none 0 0]:List Value).toArray:=fun w=>⟨vs0,by kernel_rfl,rfl⟩
theorem zny: ∀ w,(sizeOf 117).run prog w= .ok 1 w:=fun w=>by kernel_rfl
theorem zoh: ∀ w,∃ z,(zeroValue 148).run prog w= .ok z w∧z.cells=([.nilFunc]:List Value).toArray:=fun w=>⟨.nilFunc,by kernel_rfl,rfl⟩
theorem znh: ∀ w,(sizeOf 148).run prog w= .ok 1 w:=fun w=>by kernel_rfl
theorem zlt: ∀ w,(isAgg 148).run prog w= .ok false w:=fun w=>by kernel_rfl
theorem zke: ∀ w,(isAgg 117).run prog w= .ok false w:=fun w=>by kernel_rfl
theorem zm7:Enters prog 101:=enters_of func101 rfl (by kernel_rfl)
theorem z4i{N:Nat}(F:Nat): ∀ {R:RH} {s:Int} {a:Nat} {p0_:List Bool} {e:Value} {fG:Frag} (f:ORep wy R fG e p0_) {p1_:Mach} {d:Value} (k:PRep (jg false false) R d p1_) {b:Nat} {r:List Bool} (c:yn N F s p0_ p1_=some r),CallG prog 101 #[(vi s),(.pointer (some ⟨a,0,none⟩)),d,(.pointer (some ⟨b,0,none⟩))] R [box a [e] 117,fG,box b [.func (.func 101) #[] #[(.pointer (some ⟨a,0,none⟩)),d,(.pointer (some ⟨b,0,none⟩))]] 148] (fun v R' O'=> ∃ l m,v= .tuple #[]∧O'=[box a [l] 117,m,box b [.func (.func 101) #[] #[(.pointer (some ⟨a,0,none⟩)),d,(.pointer (some ⟨b,0,none⟩))]] 148]∧ORep wy R' m l r):=by
  induction F with
  |zero=>intros;rename_i c;exact qy c
  |succ F ih=>
    intro R s a p0_ e fG f p1_ d k b r c
    refine z1p (args:=[(vi s),(.pointer (some ⟨a,0,none⟩)),d,(.pointer (some ⟨b,0,none⟩))]) func101 rfl rfl fun A=>?_
    rw [yn] at c
    refine zo ?_
    refine zo ?_
    refine zm ?_
    refine qo (v:=(vi s)) rfl (za rfl) ?_
    refine qo rfl (uq rfl rfl) ?_
    refine qo (v:=(.bool (decide (s=(-1))))) rfl (za rfl) ?_
    refine qa rfl rfl rfl rfl (fun o=>zx (v:=e) (qi (i:=0) zke rfl rfl rfl)) fun v7 h8=>?_
    refine qa rfl rfl rfl rfl (fun o=>zx (v:=(vi s)) (za rfl)) fun v9 G=>?_
    obtain⟨q,c⟩:=ze c
    refine qa rfl rfl rfl rfl (fun o=>z2z (i:=s.toNat) z7w (h8.1 (zf rfl o)) f (zi (G.1 (zf rfl o)) (q (zf rfl o)).1) (qc (q (zf rfl o)))) fun ae H=>?_
    refine qa rfl rfl rfl rfl (fun o=>zx (zh8 (z7v (i:=s.toNat) (j:=1) ty4 f rfl rfl (H.1 (zf rfl o)) (qc (q (zf rfl o)))))) fun af I=>?_
    refine qo rfl (um rfl rfl (fun hb=>(I.1 (zf rfl hb)))) ?_
    refine z8 ?_
    refine zq rfl c (fun c=>?_) (fun c=>?_)
    · refine qh ?_
      obtain rfl:=Option.some.inj c
      refine z07 (D:=[]) (J:=[]) (O':=[box a [e] 117,fG,box b [(.func (.func 101) #[] #[(.pointer (some ⟨a,0,none⟩)),d,(.pointer (some ⟨b,0,none⟩))])] 148]) (rs:=[]) (vs:=[]) (RH.le.refl _) ((pk 0 rfl (pk 0 rfl (pk 0 rfl (List.Perm.refl _))))) rfl trivial ?_
      exact⟨e,fG,rfl,rfl,f⟩
    · refine zz ?_
      refine zo ?_
      refine zm ?_
      refine zl (qi (i:=0) zke rfl rfl rfl) ?_
      refine zg (vi s) ?_
      obtain⟨t,c⟩:=ze c
      refine z05 (i:=s.toNat) rfl z7w rfl f (zi rfl t.1) (qc t) fun ah K=>?_
      refine z4b (i:=s.toNat) (j:=1) ty4 f rfl rfl K (qc t) rfl (cu.2 rfl) fun L M=>?_
      refine z8 ?_
      refine zo ?_
      refine zm ?_
      refine jb rfl w9 kw rfl k fun ai O=>?_
      refine qg rfl ik rfl O fun aj P=>?_
      refine zg (vi s) ?_
      obtain⟨x,c⟩:=ze c
      refine ku (i:=s.toNat) rfl z7p rfl (jc P) (zi rfl x.1) (qc x) fun ak Q=>?_
      refine qg rfl z7d rfl Q fun al y=>?_
      refine zl (qj rfl underlying58 rfl (jc y)) ?_
      refine zg (vi 0) ?_
      refine z8 ?_
      refine zw ?_
      refine jd (γ:=Nat×Int×(List Bool)×Value×Frag) (rs [6,7,24,33]) (fun g=>[(24,(vi g.2.1))]) (fun g=>[box b [(.func (.func 101) #[] #[(.pointer (some ⟨a,0,none⟩)),d,(.pointer (some ⟨b,0,none⟩))])] 148,box a [g.2.2.2.1] 117,g.2.2.2.2]++A) (fun g R=>xz N (yn N F) s p1_ g.1 g.2.1 g.2.2.1=some r∧ORep wy R g.2.2.2.2 g.2.2.2.1 g.2.2.1∧True) (fun g=>g.1) (N,0,(up p0_ s true),e,L) ⟨[],(pk 2 rfl (pk 0 rfl (pk 0 rfl (List.Perm.refl _))))⟩ ⟨c,M,trivial⟩ ?_
      clear c
      rintro⟨p,h,S,u,w⟩ am an n ⟨c,z,_⟩
      rcases p with _|p
      · exact qy c
      replace c:xz N (yn N F) s p1_ (p+1) h S=some r:=c;rw [xz] at c
      refine zo ?_
      refine zm ?_
      refine zl (j5 rfl rfl) ?_
      refine z8 ?_
      refine zo ?_
      refine zq rfl c (fun c=>?_) (fun c=>?_)
      · refine zz ?_
        refine zo ?_
        refine zw ?_
        refine zo ?_
        refine zm ?_
        obtain⟨B,c⟩:=ze c
        refine ku (i:=h.toNat) rfl z8n rfl (jc (y.mono n)) (zi rfl B.1) (qc B) fun ao T=>?_
        refine qg rfl z9x rfl T fun ap U=>?_
        obtain rfl:=gm.1 U
        refine jy rfl za2 fun C=>?_
        refine ko (i:=0) (vs:=[(vi ((ix (ix p1_.rows s) h).to)),(vi ((ix (ix p1_.rows s) h).out))]) z8z rfl rfl rfl rfl rfl rfl (qb rfl (qb rfl jr)) ?_
        refine z8 ?_
        refine zm ?_
        refine zl (qi (i:=1) zlt rfl rfl rfl) ?_
        refine zl (qp ow rfl) ?_
        refine zl (qi (i:=0) ag3 rfl rfl rfl) ?_
        obtain⟨V,W,c⟩:=zn c
        refine zac (Oc:=[box a [u] 117,w,box b [(.func (.func 101) #[] #[(.pointer (some ⟨a,0,none⟩)),d,(.pointer (some ⟨b,0,none⟩))])] 148]) (Or:=[box C [(vi ((ix (ix p1_.rows s) h).to)),(vi ((ix (ix p1_.rows s) h).out))] 57]++A) (cs:=[(.pointer (some ⟨a,0,none⟩)),d,(.pointer (some ⟨b,0,none⟩))]) (vs:=[(vi ((ix (ix p1_.rows s) h).to))]) rfl zm7 rfl rfl ((pk 2 rfl (pk 2 rfl (pk 1 rfl (pk 0 rfl (List.Perm.refl _)))))) (ih z (k.mono n) W) fun aq ar ac E X=>?_
        obtain⟨Y,Z,rfl,rfl,aa⟩:=X
        refine z8 ?_
        refine zm ?_
        obtain⟨ab,c⟩:=ze c
        refine zl (jk rfl rfl ab) ?_
        refine zg (vi (h+1)) ?_
        refine z8 ?_
        exact⟨dkt,E,kg,(p,h+1,V,Y,Z),Nat.lt_succ_self _,⟨rfl,trivial⟩,⟨[box C [(vi ((ix (ix p1_.rows s) h).to)),(vi ((ix (ix p1_.rows s) h).out))] 57],(pk 3 rfl (pk 2 rfl (pk 0 rfl (pk 0 rfl (List.Perm.refl _)))))⟩,c,aa,trivial⟩
      · refine je ?_
        show zad _ _ _ _ _ .ret _ [] _ _
        obtain rfl:=Option.some.inj c
        refine z07 (D:=[]) (J:=[]) (O':=[box a [u] 117,w,box b [(.func (.func 101) #[] #[(.pointer (some ⟨a,0,none⟩)),d,(.pointer (some ⟨b,0,none⟩))])] 148]) (rs:=[]) (vs:=[]) n ((pk 1 rfl (pk 1 rfl (pk 0 rfl (List.Perm.refl _))))) rfl trivial ?_
        exact⟨u,w,rfl,rfl,z⟩
theorem z6m{N:Nat}{R:RH}{s:Int}{a:Nat}{p0_:List Bool}{d:Value}{fG:Frag}(g:ORep wy R fG d p0_){p1_:Mach}{c:Value}(h:PRep (jg false false) R c p1_){b:Nat}{r:List Bool}(i:yn N N s p0_ p1_=some r):CallG prog 101 #[(vi s),(.pointer (some ⟨a,0,none⟩)),c,(.pointer (some ⟨b,0,none⟩))] R [box a [d] 117,fG,box b [.func (.func 101) #[] #[(.pointer (some ⟨a,0,none⟩)),c,(.pointer (some ⟨b,0,none⟩))]] 148] (fun v R' O'=> ∃ e f,v= .tuple #[]∧O'=[box a [e] 117,f,box b [.func (.func 101) #[] #[(.pointer (some ⟨a,0,none⟩)),c,(.pointer (some ⟨b,0,none⟩))]] 148]∧ORep wy R' f e r):=z4i N g h i
theorem z8m{N:Nat}{R:RH}{s:(List Bool)}{c:Value}(h:VRep (tSl false wy) R c s){f:Bool}{r:Int}(b:z2k N s f=some r):CallP prog 108 #[c,(.bool f)] R (fun v R'=>v=(vi r)):=by
 refine qd (args:=[c,(.bool f)]) func108 rfl rfl fun A=>?_;rw [z2k] at b;refine zk (zh (vi 0) (z8 ?_));obtain⟨l,a,b⟩:=zn b;refine j4 (γ:=Unit) (rs [4,19]) (fun g=>[]) (fun g=>[]++A) (fun g R=>l=Ex.go g∧True) ?_ ?_
 refine zk (zg c (zl (qj rfl underlying117 rfl (jc h)) (zg (vi 0) (z8 (zw (jd (γ:=Nat×Int) (rs [4,6,8,19]) (fun g=>[(8,(vi g.2))]) (fun g=>[]++A) (fun g R=>dw N s f g.1 g.2=some l∧True) (fun g=>g.1) (N,0) prm ⟨a,trivial⟩ ?_))))));clear a;rintro⟨k,d⟩ q x e ⟨a,_⟩;rcases k with _|k
 exact qy a;replace a:dw N s f (k+1) d=some l:=a;rw [dw] at a;refine zk (zl (j5 rfl rfl) (z8 (zo (zq rfl a (fun a=>?_) (fun a=>?_)))));refine zz (zo (zw (zk (zg (vi d) (zh (vi d) (j3 (zg (.bool f) (zg c (zg (vi d) ?_)))))))))
 obtain⟨j,a⟩:=ze a;refine ku (i:=d.toNat) rfl z7w rfl (jc (h.mono e)) (zi rfl j.1) (qc j) fun t m=>?_;refine qg rfl ty4 rfl m fun u n=>?_;obtain rfl:=cu.1 n;refine zl (zjb underlying4 rfl rfl) (z8 (zq rfl a (fun a=>?_) (fun a=>?_)))
 refine zk (zg (vi d) (zh (vi d) (z8 (qh ?_))));replace b:=bv a b;obtain rfl:=Option.some.inj b;refine zy (D:=[]) (J:=[]) (rs:=[.tmp 4]) (vs:=[(vi d)]) e rfl rfl ⟨rfl,trivial⟩ ?_;exact⟨rfl,rfl⟩;refine zz (zm ?_);obtain⟨o,a⟩:=ze a
 refine zl (jk rfl rfl o) (zg (vi (d+1)) (z8 ?_));exact⟨dkt,(RH.le.refl _),kg,(k,d+1),Nat.lt_succ_self _,⟨rfl,trivial⟩,prm,a,trivial⟩;refine je ?_;exact⟨dkt,e,kg,(),trivial,prm,(Option.some.inj a).symm,trivial⟩;rintro y w z p ⟨rfl,_⟩;replace b:=mg b;refine zk (zh (vi (-1)) (z8 (qh ?_)))
 obtain rfl:=Option.some.inj b;refine zy (D:=[]) (J:=[]) (rs:=[.tmp 4]) (vs:=[(vi (-1))]) p rfl rfl ⟨rfl,trivial⟩ ?_;exact⟨rfl,rfl⟩
theorem zo9:Enters prog 108:=enters_of func108 rfl (by kernel_rfl)
theorem z6u{N:Nat}{R:RH}{s:(List Bool)}{a:Value}(d:VRep (tSl false wy) R a s){c:Bool}{r:Bool}(b:z0p N s c=some r):CallP prog 102 #[a,(.bool c)] R (fun v R'=>v=(.bool r)):=by
 refine qd (args:=[a,(.bool c)]) func102 rfl rfl fun A=>?_;rw [z0p] at b;refine zk (zh (.bool false) (j3 (zg a (zg (.bool c) ?_))));obtain⟨f,g,b⟩:=zn b;refine ja rfl zo9 rfl (z8m d g) fun i j e h=>?_;obtain rfl:=h
 refine zl (ma rfl rfl) (zh (.bool (decide (0≤f))) (z8 (qh ?_)));obtain rfl:=Option.some.inj b;refine zy (D:=[]) (J:=[]) (rs:=[.tmp 4]) (vs:=[(.bool (decide (0≤f)))]) e rfl rfl ⟨rfl,trivial⟩ ?_;exact⟨rfl,rfl⟩
theorem zog:Enters prog 102:=enters_of func102 rfl (by kernel_rfl)
theorem z7o{N:Nat}{R:RH}{m:Mach}{h:Value}(j:VRep (jg false false) R h m){r:Bool×Int}(a:z1l N m=some r):CallP prog 91 #[h] R (fun v R'=>v= .tuple #[(.bool r.1),(vi r.2)]):=by
 refine qd (args:=[h]) func91 rfl rfl fun A=>?_;rw [z1l] at a;refine zk (u7 (T:=(jg false false)) rfl rfl rfl j fun o Z f O L=>?_);refine zh (.bool false) (zh (vi 0) (z8 (zo (zk (zl (uj z0b rfl rfl O (j.mono f)) ?_)))));obtain⟨p,P,a⟩:=zn a
 refine ja rfl zl7 rfl (z0z (j.mono f) P) fun v8 Q e S=>?_;obtain rfl:=S;refine zh (vi p) (j3 (zg (vi p) (zl (ky rfl rfl) (z8 (zq rfl a (fun a=>?_) (fun a=>?_))))));refine zk (zg (vi p) (zh (.bool false) (zh (vi p) (z8 (qh ?_)))));obtain rfl:=Option.some.inj a
 refine zy (D:=[]) (J:=[]) (rs:=[.tmp 2,.tmp 3]) (vs:=[(.bool false),(vi p)]) (f.trans e) rfl rfl ⟨rfl,rfl,trivial⟩ ?_;exact⟨rfl,rfl⟩;refine zz (zk (jb rfl w9 kw rfl (L.mono e) fun U w=>?_));refine qg rfl ik rfl w fun V x=>?_;refine zl (qj rfl underlying28 rfl (jc x)) ?_
 obtain⟨g,a⟩:=ze a;refine z5e (T:=wy) (m:=(↑m.rows.length:Int).toNat) (c:=(↑m.rows.length:Int).toNat) rfl underlying117 zo4 (zi rfl g.1) (zi rfl g.1) (Nat.le_refl _) (zbc g) (zb5 g) fun q y z k=>?_;refine jy rfl zn9 fun b=>?_
 refine ko (i:=0) (vs:=[q]) zny rfl rfl (xm k) rfl rfl rfl (qb (nu k) jr) ?_;refine j3 (jy rfl zoh fun d=>?_)
 refine j3 (zl (dm (fs:=[]) (cs:=[(.pointer (some ⟨b,0,none⟩)),o,(.pointer (some ⟨d,0,none⟩))]) rfl rfl) (ko (i:=0) (vs:=[(.func (.func 101) #[] #[(.pointer (some ⟨b,0,none⟩)),o,(.pointer (some ⟨d,0,none⟩))])]) znh rfl rfl rfl rfl rfl rfl (qb rfl jr) ?_));refine j3 (zl (qi (i:=0) zlt rfl rfl rfl) ?_)
 obtain⟨B,C,a⟩:=zn a
 refine zac (Oc:=[box b [q] 117,y,box d [(.func (.func 101) #[] #[(.pointer (some ⟨b,0,none⟩)),o,(.pointer (some ⟨d,0,none⟩))])] 148]) (Or:=[]++A) (cs:=[(.pointer (some ⟨b,0,none⟩)),o,(.pointer (some ⟨d,0,none⟩))]) (vs:=[(vi 0)]) rfl zm7 rfl rfl ((pk 1 rfl (pk 1 rfl (pk 0 rfl (List.Perm.refl _))))) (z6m k (L.mono e) C) fun W X M s E=>?_
 obtain⟨l,F,rfl,rfl,G⟩:=E;refine j3 (zl (qi (i:=0) zke rfl rfl rfl) ?_);obtain⟨n,H,a⟩:=zn a;refine z8l (cs:=[]) (vs:=[l,(.bool false)]) (φ:=fun v=>v=(.bool n)) rfl zog rfl rfl (fun I t u=>z6u (z9v ((zd1 1 rfl G t u):VRep (uo wy) I l B)) H) fun Y K=>?_
 obtain rfl:=K;refine zl (bz rfl) (zh (.bool (!n)) (zh (vi 0) (z8 (qh ?_))));obtain rfl:=Option.some.inj a
 refine zy (D:=[]) (J:=[box b [l] 117,F,box d [(.func (.func 101) #[] #[(.pointer (some ⟨b,0,none⟩)),o,(.pointer (some ⟨d,0,none⟩))])] 148]) (rs:=[.tmp 2,.tmp 3]) (vs:=[(.bool (!n)),(vi 0)]) ((f.trans e).trans s) rfl rfl ⟨rfl,rfl,trivial⟩ ?_;exact⟨rfl,rfl⟩
theorem zpl:Enters prog 91:=enters_of func91 rfl (by kernel_rfl)
theorem z8r{N:Nat}{R:RH}{p0_:Mach}{a:Value}(c:PRep (jg false false) R a p0_){r:Bool}(b:z2e N p0_=some r):CallP prog 90 #[a] R (fun v R'=>v=(.bool r)):=by
 refine qd (args:=[a]) func90 rfl rfl fun A=>?_;rw [z2e] at b;refine zk (zh (.bool false) (j3 (qg rfl z0b rfl c fun i f=>?_)));obtain⟨d,g,b⟩:=zn b;refine ja rfl zpl rfl (z7o f g) fun j k e h=>?_;obtain rfl:=h
 refine zg (.tuple #[(.bool d.1),(vi d.2)]) (zl (qw rfl rfl) (zl (qw rfl rfl) (zh (.bool d.1) (zh (vi d.2) (j3 (zg (.bool d.1) (zh (.bool d.1) (z8 (qh ?_)))))))));obtain rfl:=Option.some.inj b;refine zy (D:=[]) (J:=[]) (rs:=[.tmp 1]) (vs:=[(.bool d.1)]) e rfl rfl ⟨rfl,trivial⟩ ?_;exact⟨rfl,rfl⟩
theorem zps:Enters prog 90:=enters_of func90 rfl (by kernel_rfl)
theorem zoi: ∀ w,∃ z,(zeroValue 32).run prog w= .ok z w∧z.cells=([.slice none 0 0]:List Value).toArray:=fun w=>⟨vs0,by kernel_rfl,rfl⟩
theorem za3: ∀ w,∃ z,(zeroValue 3).run prog w= .ok z w∧z.cells=([.int .i64 0]:List Value).toArray:=fun w=>⟨(vi 0),by kernel_rfl,rfl⟩
theorem zic: ∀ w,(sizeOf 32).run prog w= .ok 1 w:=fun w=>by kernel_rfl
theorem zb2{N:Nat}{R:RH}{m:Mach}{a:Value}(d:VRep (jg false false) R a m){r:Mach}(b:z4f N m=some r):CallP prog 103 #[a] R (fun v R'=> ∃ u0,v= .func (.func 109) #[] #[u0]∧PRep (jg false false) R' u0 r):=by
 refine qd (args:=[a]) func103 rfl rfl fun A=>?_;rw [z4f] at b;refine zk (u7 (T:=(jg false false)) rfl rfl rfl d fun c g e h f=>?_);refine zh .nilFunc (j3 (zl (dm (fs:=[]) (cs:=[c]) rfl rfl) (zh (.func (.func 109) #[] #[c]) (z8 (qh ?_)))));obtain rfl:=Option.some.inj b
 refine zy (D:=[]) (J:=[]) (rs:=[.tmp 2]) (vs:=[(.func (.func 109) #[] #[c])]) e rfl rfl ⟨rfl,trivial⟩ ?_;exact⟨rfl,⟨c,rfl,f⟩⟩
theorem znn:Enters prog 103:=enters_of func103 rfl (by kernel_rfl)
theorem zm5: ∀ w,∃ z,(zeroValue 166).run prog w= .ok z w∧z.cells=((uh (p8 16 (List.replicate 16 (((0:Int),(0:Int)):(Int×Int)))))).toArray:=fun w=>⟨(.agg #[(vi 0),(vi 0),(vi 0),(vi 0),(vi 0),(vi 0),(vi 0),(vi 0),(vi 0),(vi 0),(vi 0),(vi 0),(vi 0),(vi 0),(vi 0),(vi 0),(vi 0),(vi 0),(vi 0),(vi 0),(vi 0),(vi 0),(vi 0),(vi 0),(vi 0),(vi 0),(vi 0),(vi 0),(vi 0),(vi 0),(vi 0),(vi 0)]),by kernel_rfl,by kernel_rfl⟩
theorem zlu:ArrOk prog 166 16 2:=z7j (e:=158) underlying166 (fun w=>by kernel_rfl)
theorem znr:ArrOk prog 158 2 1:=z7j (e:=3) underlying158 (fun w=>by kernel_rfl)
theorem zlz: ∀ w,(isAgg 166).run prog w= .ok true w:=fun w=>by kernel_rfl
theorem zje: ∀ w,(sizeOf 166).run prog w= .ok 32 w:=fun w=>by kernel_rfl
theorem zc2{N:Nat}{R:RH}{m:Mach}{n:Value}(O:VRep (jg false false) R n m){p:(List Int)}{h:Value}(P:VRep (tSl false (qm .i64)) R h p){s:Int}{r:(Arr 16 (Int×Int))}(k:z6p N m p s=some r):CallP prog 113 #[n,h,(vi s)] R (fun v R'=>v=(z10 r)):=by
 refine qd (args:=[n,h,(vi s)]) func113 rfl rfl fun A=>?_;rw [z6p] at k;refine zk (u7 (T:=(jg false false)) rfl rfl rfl O fun v1 R3 C h5 h2=>?_);refine jy rfl zm5 fun M=>?_;refine j3 (jy rfl zm5 fun B=>?_);refine z8 ?_;obtain⟨e,b,k⟩:=zn k
 refine j4 (γ:=((Arr 16 (Int×Int)))) (rs [8,38]) (fun g=>[]) (fun g=>[box M (uh (p8 16 (List.replicate 16 (((0:Int),(0:Int)):(Int×Int))))) 166,box B (uh g) 166]++A) (fun g R=>e=g∧True) ?_ ?_;refine zk (jb rfl w9 kw rfl h2 fun ab Q=>?_);refine qg rfl ik rfl Q fun ac S=>?_
 refine zg (vi s) ?_;obtain⟨E,b⟩:=ze b;refine ku (i:=s.toNat) rfl z7p rfl (jc S) (zi rfl E.1) (qc E) fun ad U=>?_;refine qg rfl z7d rfl U fun ae F=>?_
 refine zl (qj rfl underlying58 rfl (jc F)) (zg (vi 0) (z8 (zw (jd (γ:=Nat×Int×((Arr 16 (Int×Int)))) (rs [8,10,16,38]) (fun g=>[(16,(vi g.2.1))]) (fun g=>[box M (uh (p8 16 (List.replicate 16 (((0:Int),(0:Int)):(Int×Int))))) 166,box B (uh g.2.2) 166]++A) (fun g R=>z00 N m p s g.1 g.2.1 g.2.2=some e∧True) (fun g=>g.1) (N,0,(p8 16 (List.replicate 16 (((0:Int),(0:Int)):(Int×Int))))) ⟨[],(pk 1 rfl (pk 0 rfl (List.Perm.refl _)))⟩ ⟨b,trivial⟩ ?_))))
 clear b;rintro⟨l,a,d⟩ af ag f ⟨b,_⟩;rcases l with _|l;exact qy b;replace b:z00 N m p s (l+1) a d=some e:=b;rw [z00] at b;refine zk (zl (j5 rfl rfl) (z8 (zo (zq rfl b (fun b=>?_) (fun b=>?_)))));refine zz ?_;obtain⟨t,c,b⟩:=zn b
 refine j4 (γ:=((Arr 16 (Int×Int)))) (rs [8,10,18,37]) (fun g=>[]) (fun g=>[box M (uh (p8 16 (List.replicate 16 (((0:Int),(0:Int)):(Int×Int))))) 166,box B (uh g) 166]++A) (fun g R=>t=g∧True) ?_ ?_;refine zw (zk (zg (vi a) ?_));obtain⟨G,c⟩:=ze c
 refine ku (i:=a.toNat) rfl z8n rfl (jc (F.mono f)) (zi rfl G.1) (qc G) fun ah V=>?_;refine qg rfl z9x rfl V fun ai W=>?_;obtain rfl:=gm.1 W;refine jy rfl za2 fun u=>?_
 refine zh (vi a) (ko (i:=0) (vs:=[(vi ((ix (ix m.rows s) a).to)),(vi ((ix (ix m.rows s) a).out))]) z8z rfl rfl rfl rfl rfl rfl (qb rfl (qb rfl jr)) ?_)
 refine j3 (zg (vi a) (zl (qp z1i rfl) (zl (qi (i:=0) ag3 rfl rfl rfl) (zl (jl (ps:=[(0,(vi ((ix (ix m.rows s) a).out))),(1,(vi (-1)))]) (v:=(.agg #[(vi ((ix (ix m.rows s) a).out)),(vi (-1))])) rfl (fun w=>by kernel_rfl)) ?_))));obtain⟨x,c⟩:=ze c
 refine zl (dx (i:=a.toNat) zlu rfl (zi rfl x.1) (Nat.lt_of_lt_of_eq (qc x) d.2)) (z2r (sz:=2) (cl:=di) (z:=(((ix (ix m.rows s) a).out,(-1)):(Int×Int))) (vs:=[(vi ((ix (ix m.rows s) a).out)),(vi (-1))]) (q:=a) (i:=a.toNat) (o:=0) (j:=2) (X:=d) co_A2tInti64.len zj7 rfl rfl (by omega) rfl (Nat.lt_of_lt_of_eq (qc x) d.2) rfl rfl rfl (qb rfl (qb rfl jr)) rfl rfl ?_)
 refine j3 (zl (qp ow rfl) (zl (qi (i:=0) ag3 rfl rfl rfl) (zl (ky rfl rfl) (z8 (zq rfl c (fun c=>?_) (fun c=>?_))))));refine z1w 8 mixed (by kernel_rfl) (by kernel_rfl) ?_;refine vk (v:=(vi a)) (za rfl) ?_;refine vk (v:=h) (za rfl) ?_
 refine vk (v:=(.pointer (some ⟨u,0,none⟩))) (qp ow rfl) ?_;refine vk (v:=(vi ((ix (ix m.rows s) a).to))) (qi (i:=0) ag3 rfl rfl rfl) ?_;obtain⟨H,c⟩:=ze c;refine z3e (df (i:=((ix (ix m.rows s) a).to).toNat) z0f rfl (jc (P.mono (C.trans f))) (zi rfl H.1) (qc H)) fun aj Y=>?_
 refine vk (vv (jq ty3 rfl Y)) ?_;obtain⟨y,c⟩:=ze c;refine vk (v:=(.pointer (some ⟨B,0+a.toNat*2,none⟩))) (dx (i:=a.toNat) zlu rfl (zi rfl y.1) (Nat.lt_of_lt_of_eq (qc y) (iw d a (((ix (ix m.rows s) a).out,(-1)):(Int×Int))).2)) ?_
 refine vk (v:=(.pointer (some ⟨B,0+a.toNat*2+1*1,none⟩))) (dx (i:=1) znr rfl rfl (by decide)) ?_;intro ak I
 refine z2r (sz:=2) (cl:=di) (z:=(((ix (iw d a (((ix (ix m.rows s) a).out,(-1)):(Int×Int))).1 a).1,(ix p ((ix (ix m.rows s) a).to))):(Int×Int))) (vs:=[(vi (ix p ((ix (ix m.rows s) a).to)))]) (q:=a) (i:=a.toNat) (o:=1) (j:=2) (X:=(iw d a (((ix (ix m.rows s) a).out,(-1)):(Int×Int)))) co_A2tInti64.len sz3 rfl rfl (by omega) rfl (Nat.lt_of_lt_of_eq (qc y) (iw d a (((ix (ix m.rows s) a).out,(-1)):(Int×Int))).2) rfl rfl rfl (qb rfl jr) rfl rfl ?_
 refine z8 ?_
 exact⟨dkt,I,kg,(iw (iw d a (((ix (ix m.rows s) a).out,(-1)):(Int×Int))) a (((ix (iw d a (((ix (ix m.rows s) a).out,(-1)):(Int×Int))).1 a).1,(ix p ((ix (ix m.rows s) a).to))):(Int×Int))),trivial,⟨[box u [(vi ((ix (ix m.rows s) a).to)),(vi ((ix (ix m.rows s) a).out))] 57],(List.Perm.refl _)⟩,(Option.some.inj c).symm,trivial⟩
 refine zz ?_;exact⟨dkt,(RH.le.refl _),kg,(iw d a (((ix (ix m.rows s) a).out,(-1)):(Int×Int))),trivial,⟨[box u [(vi ((ix (ix m.rows s) a).to)),(vi ((ix (ix m.rows s) a).out))] 57],(List.Perm.refl _)⟩,(Option.some.inj c).symm,trivial⟩;rintro t al am K ⟨rfl,_⟩;refine zm ?_;obtain⟨Z,b⟩:=ze b
 refine zl (jk rfl rfl Z) (zg (vi (a+1)) (z8 ?_));exact⟨dkt,K,kg,(l,a+1,t),Nat.lt_succ_self _,⟨rfl,trivial⟩,prm,b,trivial⟩;refine je ?_;exact⟨dkt,f,kg,d,trivial,prm,(Option.some.inj b).symm,trivial⟩;rintro e an ao L ⟨rfl,_⟩
 refine zk (zl (y7 (j:=1) (v:=(z10 e)) zlz zje rfl rfl (co_A16A2tInti64.len _) rfl) (gy (j:=0) (cs:=(uh (p8 16 (List.replicate 16 (((0:Int),(0:Int)):(Int×Int)))))) (cs':=(uh e)) zje rfl rfl (co_A16A2tInti64.len _) (co_A16A2tInti64.len _) rfl rfl (mh (z6y _)) ?_));refine z8 (qh ?_)
 obtain rfl:=Option.some.inj k;refine zy (D:=[]) (J:=[box M (uh e) 166,box B (uh e) 166]) (rs:=[.cell 6 166]) (vs:=[(z10 e)]) (C.trans L) rfl rfl ⟨⟨_,rfl,fun w hh=>z2y (i:=0) hh rfl zlz zje (co_A16A2tInti64.len _)⟩,trivial⟩ ?_;exact⟨rfl,rfl⟩
theorem zon:Enters prog 113:=enters_of func113 rfl (by kernel_rfl)
theorem zlq: ∀ w,∃ z,(zeroValue 169).run prog w= .ok z w∧z.cells=((wu (⟨(0:Int),(p8 16 (List.replicate 16 (((0:Int),(0:Int)):(Int×Int))))⟩:Sd))).toArray:=fun w=>⟨(.agg #[(vi 0),(vi 0),(vi 0),(vi 0),(vi 0),(vi 0),(vi 0),(vi 0),(vi 0),(vi 0),(vi 0),(vi 0),(vi 0),(vi 0),(vi 0),(vi 0),(vi 0),(vi 0),(vi 0),(vi 0),(vi 0),(vi 0),(vi 0),(vi 0),(vi 0),(vi 0),(vi 0),(vi 0),(vi 0),(vi 0),(vi 0),(vi 0),(vi 0)]),by kernel_rfl,by kernel_rfl⟩
theorem zhf: ∀ w,(sizeOf 169).run prog w= .ok 33 w:=fun w=>by kernel_rfl
theorem zjt: ∀ w,(isAgg 169).run prog w= .ok true w:=fun w=>by kernel_rfl
theorem mz3: ∀ w,(zeroValue 3).run prog w= .ok ((Value.int .i64) (0:Int)) w:=fun w=>by kernel_rfl
theorem kt3:KTy prog 3 1 1 false (fun cs=> ∃ x,cs=[.int .i64 x]):=zht underlying3 (by kernel_rfl)
theorem zo5:KTy prog 158 2 (2*1) true (zcv 2 (fun cs=> ∃ x,cs=[.int .i64 x])):=zef underlying158 (by kernel_rfl) kt3
theorem zmq(x:(Int×Int)):zcv 2 (fun cs=> ∃ x,cs=[.int .i64 x]) (di x):=⟨[[(vi x.1)],[(vi x.2)]],rfl,by
      intro c a
      simp only [List.mem_cons,List.not_mem_nil,or_false] at a
      rcases a with rfl|rfl
      · exact⟨x.1,rfl⟩
      · exact⟨x.2,rfl⟩,rfl⟩
theorem kt166:KTy prog 166 3 (16*2) true (zcv 16 (zcv 2 (fun cs=> ∃ x,cs=[.int .i64 x]))):=zef underlying166 (by kernel_rfl) zo5
theorem zmu(x:Sd):(fun cs=> ∃ a b,(fun cs=> ∃ x,cs=[.int .i64 x]) a∧(fun cs=> ∃ a b,(zcv 16 (zcv 2 (fun cs=> ∃ x,cs=[.int .i64 x]))) a∧(fun cs=>cs=[]) b∧cs=a++b) b∧cs=a++b) (wu x):=⟨_,_,⟨x.fJ,rfl⟩,⟨_,_,(zi0 (fun x=>(zmq x)) x.fI),rfl,(List.append_nil _).symm⟩,rfl⟩
theorem zod:KTy prog 169 4 33 true (fun cs=> ∃ a b,(fun cs=> ∃ x,cs=[.int .i64 x]) a∧(fun cs=> ∃ a b,(zcv 16 (zcv 2 (fun cs=> ∃ x,cs=[.int .i64 x]))) a∧(fun cs=>cs=[]) b∧cs=a++b) b∧cs=a++b):=zgd underlying169 (by kernel_rfl) (by kernel_rfl) (.cons (by decide) rfl (kt3.mono (by decide)) (.cons (by decide) rfl (kt166.mono (by decide)) .nil)) (by
  rintro cs ⟨e,f,c,⟨g,h,d,rfl,rfl⟩,rfl⟩
  simp only [List.length_append,List.length_nil,kt3.len _ c,kt166.len _ d])
theorem zjs:KOk prog 169 xu:=zjw zod (by decide) (by rw [underlying169]) (fun _=>rfl) (fun x=>(zmu x)) zbg z6z
theorem z9z{N:Nat}{R:RH}{m:Mach}{G:Value}(H:VRep (jg false false) R G m){p:(List Int)}{o:Value}(y:VRep (tSl false (qm .i64)) R o p){r:(List Int)}(q:z3p N m p=some r):CallP prog 110 #[G,o] R (fun v R'=>VRep (tSl true (qm .i64)) R' v r):=by
 refine qd (args:=[G,o]) func110 rfl rfl fun A=>?_;rw [z3p] at q;refine zk (u7 (T:=(jg false false)) rfl rfl rfl H fun v1 R3 n h5 h2=>?_);refine zh vs0 (j3 (zbw (ke:=xu) (ve:=(Value.int .i64)) rfl fun I f7 h8=>?_))
 refine zh I (j3 (zg o (zl (qj rfl underlying32 rfl (jc (y.mono n))) ?_)));obtain⟨z,q⟩:=ze q;refine z5e (T:=(qm .i64)) (m:=(↑p.length:Int).toNat) (c:=(↑p.length:Int).toNat) rfl underlying32 zo3 (zi rfl z.1) (zi rfl z.1) (Nat.le_refl _) (zbc z) (zb5 z) fun f Z K aa=>?_;refine zh f (z8 ?_)
 obtain⟨s,b,q⟩:=zn q;refine j4 (γ:=(List Int)×Frag) (rs [7,12,16,48]) (fun g=>[]) (fun g=>[g.2]++A) (fun g R=>s=g.1∧ORep (qm .i64) R g.2 f g.1∧capOf f=g.1.length∧True) ?_ ?_
 refine zk (zg o (zl (qj rfl underlying32 rfl (jc (y.mono n))) (zg (vi 0) (z8 (zw (jd (γ:=Nat×Int×(List (Sd×Int))×(List Int)×Frag×Frag) (rs [7,12,18,48]) (fun g=>[(18,(vi g.2.1))]) (fun g=>[g.2.2.2.2.1,g.2.2.2.2.2]++A) (fun g R=>mq N m p g.1 g.2.1 g.2.2.1 g.2.2.2.1=some s∧MRep xu (Value.int .i64) R g.2.2.2.2.1 I g.2.2.1∧ORep (qm .i64) R g.2.2.2.2.2 f g.2.2.2.1∧capOf f=g.2.2.2.1.length∧True) (fun g=>g.1) (N,0,[],(mk (↑p.length:Int) (0:Int)),f7,Z) ⟨[],(pk 1 rfl (pk 0 rfl (List.Perm.refl _)))⟩ ⟨b,h8,aa,(K.trans List.length_replicate.symm),trivial⟩ ?_))))))
 clear b;rintro⟨B,a,h,L,P,Q⟩ av aw l ⟨b,C,M,F,_⟩;rcases B with _|B;exact qy b;replace b:mq N m p (B+1) a h L=some s:=b;rw [mq] at b;refine zk (zl (j5 rfl rfl) (z8 (zo (zq rfl b (fun b=>?_) (fun b=>?_)))))
 refine zz (zo (zw (zk (zg (vi a) ?_))));obtain⟨S,b⟩:=ze b;refine ku (i:=a.toNat) rfl z0f rfl (jc (y.mono (n.trans l))) (zi rfl S.1) (qc S) fun ax ab=>?_;refine qg rfl ty3 rfl ab fun ay ac=>?_;obtain rfl:=jo.1 ac
 refine zh (vi a) (zh (vi (ix p a)) (j3 (zg (vi (ix p a)) (zl (uj z0b rfl rfl (h5.mono l) (H.mono (n.trans l))) (zg o (zg (vi a) ?_))))));obtain⟨d,ad,b⟩:=zn b;refine ja rfl zon rfl (zc2 (H.mono (n.trans l)) (y.mono (n.trans l)) ad) fun az aA e ae=>?_
 obtain rfl:=ae
 refine zl (zgb (ps:=[(0,(vi (ix p a))),(1,(z10 d))]) (pls:= #[(0,1),(1,32)]) (out:=(wu (⟨(ix p a),d⟩:Sd))) (k:=33) (v:=(xu (⟨(ix p a),d⟩:Sd))) rfl underlying169 (zkx (co_Srefines_key.len _) zlq) (fun w=>by kernel_rfl) (.cons rfl rfl (.last rfl (by simp only [co_A16A2tInti64.len];rfl))) (co_Srefines_key.len _) rfl) (jy rfl zlq fun U=>?_)
 refine gy (j:=0) (cs:=(wu (⟨(0:Int),(p8 16 (List.replicate 16 (((0:Int),(0:Int)):(Int×Int))))⟩:Sd))) (cs':=(wu (⟨(ix p a),d⟩:Sd))) zhf rfl rfl (co_Srefines_key.len _) (co_Srefines_key.len _) rfl rfl (mh (z6z _)) ?_;refine z8 ?_;obtain⟨E,t,b⟩:=zn b
 refine j4 (γ:=(List (Sd×Int))×Frag) (rs [10,12,29,41]) (fun g=>[]) (fun g=>[g.2,Q,box U (wu (⟨(ix p a),d⟩:Sd)) 169]++A) (fun g R=>E=g.1∧MRep xu (Value.int .i64) R g.2 I g.1∧True) ?_ ?_
 refine zk (zg I (zl (y7 (j:=0) (v:=(xu (⟨(ix p a),d⟩:Sd))) zjt zhf rfl rfl (co_Srefines_key.len _) rfl) (zl (zfy (k:=(⟨(ix p a),d⟩:Sd)) underlying164 zjs mz3 (zbm (i:=1) rfl (C.mono e)) rfl rfl) (zg (.tuple #[(vi (z9u (0:Int) h (⟨(ix p a),d⟩:Sd))),(.bool (zej h (⟨(ix p a),d⟩:Sd)))]) (zl (qw rfl rfl) (zl (qw rfl rfl) (zh (vi (z9u (0:Int) h (⟨(ix p a),d⟩:Sd))) (zh (.bool (zej h (⟨(ix p a),d⟩:Sd))) (j3 (zg (.bool (zej h (⟨(ix p a),d⟩:Sd))) (zl (bz rfl) (z8 (zq rfl t (fun t=>?_) (fun t=>?_))))))))))))))
 refine zm (zg I (zl (y7 (j:=0) (v:=(xu (⟨(ix p a),d⟩:Sd))) zjt zhf rfl rfl (co_Srefines_key.len _) rfl) (zg I (zl (zk8 rfl underlying164 rfl (zbm (i:=1) rfl (C.mono e))) (za5 (i:=1) (k:=(⟨(ix p a),d⟩:Sd)) (u:=(↑h.length:Int)) underlying164 zjs rfl (C.mono e) rfl rfl rfl fun af ag=>?_)))))
 refine z8 ?_;exact⟨dkt,(RH.le.refl _),kg,((z7m h (⟨(ix p a),d⟩:Sd) (↑h.length:Int)),af),trivial,⟨[],(pk 1 rfl (pk 1 rfl (pk 0 rfl (List.Perm.refl _))))⟩,(Option.some.inj t).symm,ag,trivial⟩;refine zz ?_
 exact⟨dkt,(RH.le.refl _),kg,(h,P),trivial,⟨[],(pk 1 rfl (pk 1 rfl (pk 0 rfl (List.Perm.refl _))))⟩,(Option.some.inj t).symm,(C.mono e),trivial⟩;rintro⟨E,ah⟩ aB aC x ⟨rfl,V,_⟩
 refine zm (zg f (zg (vi a) (zg I (zl (y7 (j:=2) (v:=(xu (⟨(ix p a),d⟩:Sd))) zjt zhf rfl rfl (co_Srefines_key.len _) rfl) (zl (zco (k:=(⟨(ix p a),d⟩:Sd)) underlying164 zjs mz3 (zbm (i:=0) rfl V) rfl rfl) ?_)))));obtain⟨O,b⟩:=ze b
 refine z05 (i:=a.toNat) rfl z0f rfl (M.mono (e.trans x)) (zi rfl O.1) (qc O) fun aD ai=>?_;refine z4b (i:=a.toNat) (j:=1) ty3 (M.mono (e.trans x)) rfl rfl ai (qc O) rfl (jo.2 rfl) fun aj ak=>?_;refine z8 (zm ?_);obtain⟨al,b⟩:=ze b
 refine zl (jk rfl rfl al) (zg (vi (a+1)) (z8 ?_))
 exact⟨dkt,(e.trans x),kg,(B,a+1,E,(up L a (z9u (0:Int) E (⟨(ix p a),d⟩:Sd))),ah,aj),Nat.lt_succ_self _,⟨rfl,trivial⟩,⟨[box U (wu (⟨(ix p a),d⟩:Sd)) 169],(pk 2 rfl (pk 0 rfl (pk 0 rfl (List.Perm.refl _))))⟩,b,V,ak,(F.trans List.length_set.symm),trivial⟩;refine je ?_
 exact⟨dkt,l,kg,(L,Q),trivial,⟨[P],(List.Perm.refl _)⟩,(Option.some.inj b).symm,M,F,trivial⟩;rintro⟨s,aE⟩ aF aG W ⟨rfl,am,X,_⟩;refine zk (zg f (zh f (z8 (z4c (i:=0) rfl am fun an Y ao=>?_))));have ap:VRep (tSl true (qm .i64)) an f s:=(z0n ao X);refine qh ?_;obtain rfl:=Option.some.inj q
 refine zy (D:=[]) (J:=[]) (rs:=[.tmp 4]) (vs:=[f]) ((n.trans W).trans Y) rfl rfl ⟨rfl,trivial⟩ ?_;exact⟨rfl,ap⟩
theorem zoq:Enters prog 110:=enters_of func110 rfl (by kernel_rfl)
theorem z92{N:Nat}{R:RH}{s1_:(List Int)}{b:Value}(e:VRep (tSl false (qm .i64)) R b s1_){s2_:(List Int)}{d:Value}(f:VRep (tSl false (qm .i64)) R d s2_){r:Bool}(c:slices_Equal_int N s1_ s2_=some r):CallP prog 111 #[b,d] R (fun v R'=>v=(.bool r)):=by
 refine qd (args:=[b,d]) func111 rfl rfl fun A=>?_;rw [slices_Equal_int] at c;refine zk (zh (.bool false) (z8 (zo (zk (zg b (zl (qj rfl underlying32 rfl (jc e)) (zg d (zl (qj rfl underlying32 rfl (jc f)) (zl (ky rfl rfl) (z8 (zq rfl c (fun c=>?_) (fun c=>?_))))))))))))
 refine zk (zh (.bool false) (z8 (qh ?_)));obtain rfl:=Option.some.inj c;refine zy (D:=[]) (J:=[]) (rs:=[.tmp 4]) (vs:=[(.bool false)]) (RH.le.refl _) rfl rfl ⟨rfl,trivial⟩ ?_;exact⟨rfl,rfl⟩;refine zz ?_;obtain⟨o,a,c⟩:=zn c;refine j4 (γ:=Unit) (rs [4,6,11,26]) (fun g=>[]) (fun g=>[]++A) (fun g R=>o=Ex.go g∧True) ?_ ?_
 refine zk (zg b (zl (qj rfl underlying32 rfl (jc e)) (zg (vi 0) (z8 (zw (jd (γ:=Nat×Int) (rs [4,6,13,26]) (fun g=>[(13,(vi g.2))]) (fun g=>[]++A) (fun g R=>ny N s1_ s2_ g.1 g.2=some o∧True) (fun g=>g.1) (N,0) prm ⟨a,trivial⟩ ?_))))));clear a;rintro⟨n,h⟩ u B j ⟨a,_⟩
 rcases n with _|n;exact qy a;replace a:ny N s1_ s2_ (n+1) h=some o:=a;rw [ny] at a;refine zk (zl (j5 rfl rfl) (z8 (zo (zq rfl a (fun a=>?_) (fun a=>?_)))))
 refine zz (zo (zw (zk (zg (vi h) (zh (vi h) (z8 (zo (z1w 9 mixed (by kernel_rfl) (by kernel_rfl) ?_))))))));refine vk (v:=b) (za rfl) ?_;refine vk (v:=(vi h)) (za rfl) ?_;obtain⟨l,a⟩:=ze a
 refine z3e (df (i:=h.toNat) z0f rfl (jc (e.mono j)) (zi rfl l.1) (qc l)) fun w p=>?_;refine vk (vv (jq ty3 rfl p)) ?_;refine vk (v:=d) (za rfl) ?_;refine vk (v:=(vi h)) (za rfl) ?_;obtain⟨m,a⟩:=ze a
 refine z3e (df (i:=h.toNat) z0f rfl (jc (f.mono j)) (zi rfl m.1) (qc m)) fun x q=>?_;refine vk (vv (jq ty3 rfl q)) ?_;refine vk (ky rfl rfl) ?_;intro y k;refine z8 (zq rfl a (fun a=>?_) (fun a=>?_));refine zk (zh (.bool false) (z8 (qh ?_)));replace c:=bv a c
 obtain rfl:=Option.some.inj c;refine zy (D:=[]) (J:=[]) (rs:=[.tmp 4]) (vs:=[(.bool false)]) (j.trans k) rfl rfl ⟨rfl,trivial⟩ ?_;exact⟨rfl,rfl⟩;refine zz (zm ?_);obtain⟨s,a⟩:=ze a;refine zl (jk rfl rfl s) (zg (vi (h+1)) (z8 ?_));exact⟨dkt,k,kg,(n,h+1),Nat.lt_succ_self _,⟨rfl,trivial⟩,prm,a,trivial⟩
 refine je ?_;exact⟨dkt,j,kg,(),trivial,prm,(Option.some.inj a).symm,trivial⟩;rintro C z E t ⟨rfl,_⟩;replace c:=mg c;refine zk (zh (.bool true) (z8 (qh ?_)));obtain rfl:=Option.some.inj c;refine zy (D:=[]) (J:=[]) (rs:=[.tmp 4]) (vs:=[(.bool true)]) t rfl rfl ⟨rfl,trivial⟩ ?_;exact⟨rfl,rfl⟩
theorem zni:Enters prog 111:=enters_of func111 rfl (by kernel_rfl)
theorem z97{N:Nat}{R:RH}{p0_:Mach}{h:Value}(l:PRep (jg false false) R h p0_):zhl prog 109 [h] R (fun(x:(List Int)) vs R=> ∃ u0,vs=[u0]∧VRep (tSl false (qm .i64)) R u0 x) (fun σ B s=>z2u N p0_ σ B s):=by
 intro yv σ B I R1 O Z Y r t h0 a hy;refine z1p (args:=[yv,h]) func109 rfl rfl fun A=>?_;dsimp only at a;rw [z2u] at a;refine zk (jb rfl w9 kw rfl (l.mono r) fun v1 h2=>?_);refine qg rfl ik rfl h2 fun v3 h4=>?_;refine zl (qj rfl underlying28 rfl (jc h4)) ?_;obtain⟨H,a⟩:=ze a
 refine z5e (T:=(qm .i64)) (m:=(↑p0_.rows.length:Int).toNat) (c:=(↑p0_.rows.length:Int).toNat) rfl underlying32 zo3 (zi rfl H.1) (zi rfl H.1) (Nat.le_refl _) (zbc H) (zb5 H) fun K f6 y h8=>?_;refine zh K (z8 (zw (z4c (i:=0) rfl h8 fun L d M=>?_)))
 have P:VRep (tSl true (qm .i64)) L K (mk (↑p0_.rows.length:Int) (0:Int)):=(z0n M (y.trans List.length_replicate.symm))
 refine jd (γ:=Nat×σ×((List Int))×(List Frag)×Value) (rs [3,5,9,19]) (fun g=>[(3,g.2.2.2.2)]) (fun g=>[]++(g.2.2.2.1++A)) (fun g R=>nk N σ B p0_ g.1 g.2.1 g.2.2.1=some Y∧I g.2.1 R g.2.2.2.1∧VRep (tSl true (qm .i64)) R g.2.2.2.2 g.2.2.1∧True) (fun g=>g.1) (N,Z,(mk (↑p0_.rows.length:Int) (0:Int)),O,K) prm ⟨a,(t _ _ _ _ d h0),P,trivial⟩ ?_
 clear a;rintro⟨q,z,C,E,k⟩ af ag j ⟨a,F,u,_⟩;rcases q with _|q;exact qy a;replace a:nk N σ B p0_ (q+1) z C=some Y:=a;rw [nk] at a;refine zo (zk (zg yv (zg k ?_)));obtain⟨w,Q,a⟩:=zn a
 refine zaw (vs:=[k]) (J:=[]) (Oc:=E) (A:=A) rfl rfl rfl rfl (hy C z w.1 w.2 _ _ [k] (d.trans j) ⟨k,rfl,(Sub.v (B:=(tSl false (qm .i64))) (jh Sub.refl (fun _=>rfl)) u)⟩ F Q) fun ah n b o=>?_;refine z8 (zq rfl a (fun a=>?_) (fun a=>?_))
 refine zz (zw (zk (qg rfl z0b rfl (l.mono (((r.trans d).trans j).trans b)) fun ai S=>?_)));refine zg k ?_;obtain⟨U,V,a⟩:=zn a;refine ja rfl zoq rfl (z9z S (Sub.v (B:=(tSl false (qm .i64))) (jh Sub.refl (fun _=>rfl)) (u.mono b)) V) fun p aj e G=>?_
 refine zh p (z8 (zo (zk (zg k (zg p ?_)))));obtain⟨ak,W,a⟩:=zn a;refine ja rfl zni rfl (z92 (Sub.v (B:=(tSl false (qm .i64))) (jh Sub.refl (fun _=>rfl)) (u.mono (b.trans e))) (Sub.v (B:=(tSl false (qm .i64))) (jh Sub.refl (fun _=>rfl)) G) W) fun al am f X=>?_;obtain rfl:=X
 refine z8 (zq rfl a (fun a=>?_) (fun a=>?_));refine qh ?_;obtain rfl:=Option.some.inj a;refine z07 (D:=[]) (J:=[]) (O':=n) (rs:=[]) (vs:=[]) ((((d.trans j).trans b).trans e).trans f) (List.Perm.refl _) rfl trivial ?_;exact(t _ _ _ _ (e.trans f) o);refine zz (zm (zg p (zh p (z8 ?_))))
 exact⟨dkt,((b.trans e).trans f),kg,(q,w.2,U,n,p),Nat.lt_succ_self _,⟨rfl,trivial⟩,prm,a,(t _ _ _ _ (e.trans f) o),(G.mono f),trivial⟩;refine je ?_;show zad _ _ _ _ _ .ret _ [] _ _;obtain rfl:=Option.some.inj a
 refine z07 (D:=[]) (J:=[]) (O':=n) (rs:=[]) (vs:=[]) ((d.trans j).trans b) (List.Perm.refl _) rfl trivial ?_;exact o
theorem znk:Enters prog 109:=enters_of func109 rfl (by kernel_rfl)
theorem z8b: ∀ w,(isAgg 32).run prog w= .ok false w:=fun w=>by kernel_rfl
theorem zab{N:Nat}{R:RH}{m:Mach}{F:Value}(o:VRep (jg false false) R F m){r:(List Int)×Int×Int}(a:z3l N m=some r):CallP prog 93 #[F] R (fun v R'=> ∃ u0,v= .tuple #[u0,(vi r.2.1),(vi r.2.2)]∧VRep (tSl false (qm .i64)) R' u0 r.1):=by
 refine qd (args:=[F]) func93 rfl rfl fun A=>?_;rw [z3l] at a;refine zk (u7 (T:=(jg false false)) rfl rfl rfl o fun v1 R3 k h5 h2=>?_);refine jy rfl zoi fun t=>?_;refine jy rfl za3 fun u=>?_;refine zh (vi 0) (z8 (zo (zk (zl (uj z0b rfl rfl h5 (o.mono k)) ?_))))
 obtain⟨p,X,a⟩:=zn a;refine ja rfl zl7 rfl (z0z (o.mono k) X) fun ar au d Y=>?_;obtain rfl:=Y;refine zh (vi p) (j3 (zg (vi p) (zl (ky rfl rfl) (z8 (zq rfl a (fun a=>?_) (fun a=>?_))))))
 refine zk (zg (vi p) (ko (i:=1) (vs:=[vs0]) zic rfl rfl rfl rfl rfl rfl (qb rfl jr) ?_));refine ko (i:=0) (vs:=[(vi 0)]) sz3 rfl rfl rfl rfl rfl rfl (qb rfl jr) ?_;refine zh (vi p) (z8 (qh ?_));obtain rfl:=Option.some.inj a
 refine zy (D:=[]) (J:=[box u [(vi 0)] 3,box t [vs0] 32]) (rs:=[.cell 2 32,.cell 3 3,.tmp 4]) (vs:=[vs0,(vi 0),(vi p)]) (k.trans d) rfl rfl ⟨⟨_,rfl,fun w G=>z8e (i:=1) G rfl rfl z8b  ⟩,⟨_,rfl,fun w G=>z8e (i:=0) G rfl rfl ag3  ⟩,rfl,trivial⟩ ?_;exact⟨rfl,⟨vs0,rfl,z2d⟩⟩
 refine zz (zk (ko (i:=0) (vs:=[(vi (-1))]) sz3 rfl rfl rfl rfl rfl rfl (qb rfl jr) ?_));refine z8 (zo (zk (zl (uj z0b rfl rfl (h5.mono d) (o.mono (k.trans d))) ?_)));obtain⟨av,Z,a⟩:=zn a;refine ja rfl znn rfl (zb2 (o.mono (k.trans d)) Z) fun aw ax M aa=>?_
 obtain⟨ay,rfl,ab⟩:=aa;refine z8 (zw ?_);obtain⟨g,ac,a⟩:=zn a
 refine zcu (Oc:=[box u [(vi (-1))] 3,box t [vs0] 32]) (Or:=A) _ (fun(s:(List Int)×Int) R O=> ∃ (n:Value),(∃ J,O.Perm (J++[box t [n] 32,box u [(vi s.2)] 3]))∧VRep (tSl false (qm .i64)) R n s.1∧True) (fun(s:(List Int)×Int) (c:Code) R O=>False) _ _ rfl znk (z97 (N:=N) ab) (List.Perm.refl _) (by decide) (by rintro _ _ _ ⟨_,rfl,_⟩;rfl) (by rintro s R2 R3 O2 j ⟨n,P,Q,_⟩;exact⟨n,P,Q.mono j,trivial⟩) (fun _ _ _ _ _ _ h=>h) (fun _ _ _ _ _ h=>h.elim) ⟨vs0,⟨[],(pk 1 rfl (pk 0 rfl (List.Perm.refl _)))⟩,z2d,trivial⟩ ac ?_ ?_ ?_
 rintro az H aA aB ai aC aj ak al S ⟨n,⟨_,P⟩,Q,_⟩ z aD;have x:=z;clear z;(try dsimp only at x);refine z9y (zcr P) ?_;obtain⟨q,rfl,I⟩:=S;refine zm (zh q (z8 ?_));refine⟨rfl,rfl,(RH.le.refl _),[box t [n] 32,box u [(vi H.2)] 3],List.Perm.refl _,fun aE=>?_⟩
 refine zw (zk (zg q (ko (i:=0) (vs:=[q]) zic rfl rfl (bq I) rfl rfl rfl (qb (z2a I) jr) ?_)));refine z8 (zm (zl (qi (i:=1) ag3 rfl rfl rfl) ?_));obtain⟨ad,x⟩:=ze x;refine zl (jk rfl rfl ad) (ko (i:=1) (vs:=[(vi (H.2+1))]) sz3 rfl rfl rfl rfl rfl rfl (qb rfl jr) ?_)
 refine z8 ?_;obtain⟨rfl,rfl⟩:=Prod.mk.inj (Option.some.inj x);exact⟨rfl,(RH.le.refl _),[box t [q] 32,box u [(vi (H.2+1))] 3],List.Perm.refl _,rfl,⟨q,⟨[],List.Perm.refl _⟩,I,trivial⟩⟩;rintro aF aG am U ⟨f,⟨_,P⟩,K,_⟩;refine⟨_,_,P,?_⟩
 refine zo (zee [2,3] [(fun es=>phX f),(fun es=>phX (vi g.2)),(fun es=>(fun _ _=>True)),(fun es=>(fun _ _=>True)),(fun es=>phX (vi 0))] (fun fl es R O=>(fl=[false,false]∧O.Perm ([box t [f] 32,box u [(vi g.2)] 3]++A)∧True)∨(fl=[true,false]∧O.Perm ([box t [f] 32,box u [(vi g.2)] 3]++A)∧True)∨(fl=[true,true]∧O.Perm ([box t [f] 32,box u [(vi g.2)] 3]++A)∧True)) mixed (by kernel_rfl) ⟨(wz q8),(wz q8),(fun _ _ _ _ _ h=>h),(fun _ _ _ _ _ h=>h),(wz q8),trivial⟩ (by rintro fl es R R' O j (⟨rfl,b,_⟩|⟨rfl,b,_⟩|⟨rfl,b,_⟩);exact(.inl ⟨rfl,b,trivial⟩);exact(.inr (.inl ⟨rfl,b,trivial⟩));exact(.inr (.inr ⟨rfl,b,trivial⟩))) ⟨(fun _ _ _ _ _ h=>h),(fun _ _ _ _ _ h=>h),(fun _ _ _ _ _ h=>h),(fun _ _ _ _ _ h=>h),(fun _ _ _ _ _ h=>h),trivial⟩ (fun es=> .inl ⟨rfl,(List.Perm.refl _),trivial⟩) ⟨?_,?_,?_,?_,?_,trivial⟩ fun aH B=>?_)
 intro l aI fl O j y L C E;rcases E with⟨rfl,b,_⟩|⟨rfl,b,_⟩|⟨rfl,b,_⟩;exact z5r b (qf (qi (i:=0) z8b (y 2 rfl) rfl rfl));exact z3s C (by kernel_rfl);exact z3s C (by kernel_rfl);intro l aJ fl O j y L C E;rcases E with⟨rfl,b,_⟩|⟨rfl,b,_⟩|⟨rfl,b,_⟩;exact z5r b (qf (qi (i:=1) ag3 (y 3 rfl) rfl rfl))
 exact z5r b (qf (qi (i:=1) ag3 (y 3 rfl) rfl rfl));exact z3s C (by kernel_rfl);intro l aK fl O j y L C V E;obtain⟨W,d1,d2,_⟩:=L;rcases E with⟨rfl,b,_⟩|⟨rfl,b,_⟩|⟨rfl,b,_⟩;refine og b ?_
 refine Eff.mono (z06 (i:=0) (vs:=[f]) zic (y 2 rfl) (W rfl) (bq K) rfl rfl (Nat.le_of_ble_eq_true rfl) (qb (z2a K) jr)) ?_;rintro v R' O' hle' ⟨_,rfl,rfl⟩;exact⟨trivial,.inr (.inl ⟨rfl,(List.Perm.refl _),trivial⟩)⟩;cases V;cases V;intro l aL fl O j y L C V E;obtain⟨W,d1,d2,d3,d4,_⟩:=L
 rcases E with⟨rfl,b,_⟩|⟨rfl,b,_⟩|⟨rfl,b,_⟩;exact z3s C (by kernel_rfl);refine og b ?_;refine Eff.mono (z06 (i:=1) (vs:=[(vi g.2)]) sz3 (y 3 rfl) (W rfl) rfl rfl rfl (Nat.le_of_ble_eq_true rfl) (qb rfl jr)) ?_;rintro v R' O' hle' ⟨_,rfl,rfl⟩;exact⟨trivial,.inr (.inr ⟨rfl,(List.Perm.refl _),trivial⟩)⟩;cases V
 intro l aO fl O j y L C E;obtain⟨W,d1,d2,d3,d4,_⟩:=L;exact qf (ym rfl);intro aP aQ aR ae af ag;rintro ap (⟨e,_⟩|⟨e,_⟩|⟨_,b,_⟩);cases e;cases e;refine⟨[],_,b,?_⟩;obtain rfl:=Eq.symm ae;obtain rfl:=Eq.symm af;obtain rfl:=Eq.symm ag;refine z8 (qh ?_);obtain rfl:=Option.some.inj a
 refine zy (D:=[]) (J:=[box t [f] 32,box u [(vi g.2)] 3]) (rs:=[.cell 2 32,.cell 3 3,.tmp 4]) (vs:=[f,(vi g.2),(vi 0)]) ((((k.trans d).trans M).trans U).trans B) rfl rfl ⟨⟨_,rfl,fun w G=>z8e (i:=0) G rfl rfl z8b  ⟩,⟨_,rfl,fun w G=>z8e (i:=1) G rfl rfl ag3  ⟩,rfl,trivial⟩ ?_
 exact⟨rfl,⟨f,rfl,(K.mono B)⟩⟩;exact fun _ _ _ _ _ h=>h.elim
theorem zpo:Enters prog 93:=enters_of func93 rfl (by kernel_rfl)
theorem zay{N:Nat}{R:RH}{x:(List Int)}{d:Value}(h:VRep (tSl false (qm .i64)) R d x){r:Int}(b:slices_Max_int N x=some r):CallP prog 94 #[d] R (fun v R'=>v=(vi r)):=by
 refine qd (args:=[d]) func94 rfl rfl fun A=>?_;rw [slices_Max_int] at b;refine zk (zh (vi 0) (z8 (zo (zk (zg d (zl (qj rfl underlying32 rfl (jc h)) (zl (j5 rfl rfl) (z8 (zq rfl b (fun b=>?_) (fun b=>?_))))))))));exact qy b;refine zz (zk (zg d ?_));obtain⟨q,b⟩:=ze b
 refine ku (i:=(0:Int).toNat) rfl z0f rfl (jc h) (zi rfl q.1) (qc q) fun C s=>?_;refine qg rfl ty3 rfl s fun E t=>?_;obtain rfl:=jo.1 t;refine zh (vi (ix x 0)) (z8 ?_);obtain⟨k,a,b⟩:=zn b
 refine j4 (γ:=Int) (rs [3,5,12,24]) (fun g=>[(3,(vi g))]) (fun g=>[]++A) (fun g R=>k=g∧True) ?_ ?_
 refine zk (zh (vi 1) (z8 (zw (jd (γ:=Nat×Int×Int) (rs [3,5,12,24]) (fun g=>[(3,(vi g.2.1)),(4,(vi g.2.2))]) (fun g=>[]++A) (fun g R=>aj N x g.1 g.2.1 g.2.2=some k∧True) (fun g=>g.1) (N,(ix x 0),1) prm ⟨a,trivial⟩ ?_))));clear a;rintro⟨j,e,c⟩ u w f ⟨a,_⟩;rcases j with _|j
 exact qy a;replace a:aj N x (j+1) e c=some k:=a;rw [aj] at a;refine zo (zk (zg (vi c) (zg d (zl (qj rfl underlying32 rfl (jc (h.mono f))) (zl (j5 rfl rfl) (z8 (zq rfl a (fun a=>?_) (fun a=>?_))))))))
 refine zz (zo (zw (zm (zg (vi e) (zg d (zg (vi c) ?_))))));obtain⟨l,a⟩:=ze a;refine ku (i:=c.toNat) rfl z0f rfl (jc (h.mono f)) (zi rfl l.1) (qc l) fun y m=>?_;refine qg rfl ty3 rfl m fun z n=>?_;obtain rfl:=jo.1 n
 refine zl (zew rfl underlying3 rfl rfl) (zh (vi (max e (ix x c))) (z8 (zm (zg (vi c) ?_))));obtain⟨o,a⟩:=ze a;refine zl (jk rfl rfl o) (zh (vi (c+1)) (z8 ?_));exact⟨dkt,(RH.le.refl _),kg,(j,max e (ix x c),c+1),Nat.lt_succ_self _,⟨rfl,rfl,trivial⟩,prm,a,trivial⟩;refine je ?_
 exact⟨dkt,f,kg,e,⟨rfl,trivial⟩,prm,(Option.some.inj a).symm,trivial⟩;rintro k B F p ⟨rfl,_⟩;refine zk (zg (vi k) (zh (vi k) (z8 (qh ?_))));obtain rfl:=Option.some.inj b;refine zy (D:=[]) (J:=[]) (rs:=[.tmp 2]) (vs:=[(vi k)]) p rfl rfl ⟨rfl,trivial⟩ ?_;exact⟨rfl,rfl⟩
theorem zpg:Enters prog 94:=enters_of func94 rfl (by kernel_rfl)
theorem z8o{N:Nat}{R:RH}{p0_:Mach}{b:Value}(d:PRep (jg false false) R b p0_){r:Bool}(a:z2m N p0_=some r):CallP prog 92 #[b] R (fun v R'=>v=(.bool r)):=by
 refine qd (args:=[b]) func92 rfl rfl fun A=>?_;rw [z2m] at a;refine zk (zh (.bool false) (j3 (qg rfl z0b rfl d fun s m=>?_)));obtain⟨e,n,a⟩:=zn a;refine ja rfl zpo rfl (zab m n) fun t u i o=>?_;obtain⟨h,rfl,f⟩:=o
 refine zg (.tuple #[h,(vi e.2.1),(vi e.2.2)]) (zl (qw rfl rfl) (zl (qw rfl rfl) (zl (qw rfl rfl) (zh h (zh (vi e.2.1) (zh (vi e.2.2) (j3 (zg h ?_))))))));obtain⟨g,j,a⟩:=zn a;refine ja rfl zpg rfl (zay f j) fun p q c k=>?_;obtain rfl:=k
 refine zg h (zl (qj rfl underlying32 rfl (jc (f.mono c))) ?_);obtain⟨l,a⟩:=ze a;refine zl (z2f rfl rfl l) (zl (uq rfl rfl) (zh (.bool (decide (g=((↑e.1.length:Int)-1)))) (z8 (qh ?_))));obtain rfl:=Option.some.inj a
 refine zy (D:=[]) (J:=[]) (rs:=[.tmp 1]) (vs:=[(.bool (decide (g=((↑e.1.length:Int)-1))))]) (i.trans c) rfl rfl ⟨rfl,trivial⟩ ?_;exact⟨rfl,rfl⟩
theorem zpa:Enters prog 92:=enters_of func92 rfl (by kernel_rfl)
theorem z9f{N:Nat}{R:RH}{m:Mach}{o:Value}(k:VRep (jg false false) R o m){r:Int}(a:z2t N m=some r):CallP prog 56 #[o] R (fun v R'=>v=(vi r)):=by
 refine qd (args:=[o]) func56 rfl rfl fun A=>?_;rw [z2t] at a;refine zk (u7 (T:=(jg false false)) rfl rfl rfl k fun v1 R3 e P h2=>?_);refine zh (vi 0) (z8 (zo (zk (zl (uj z0b rfl rfl P (k.mono e)) ?_))));obtain⟨y,Q,a⟩:=zn a
 refine ja rfl zl7 rfl (z0z (k.mono e) Q) fun v8 S b U=>?_;obtain rfl:=U;refine zh (vi y) (j3 (zg (vi y) (zl (ky rfl rfl) (z8 (zq rfl a (fun a=>?_) (fun a=>?_))))));refine zk (zg (vi y) (zh (vi y) (z8 (qh ?_))));obtain rfl:=Option.some.inj a
 refine zy (D:=[]) (J:=[]) (rs:=[.tmp 2]) (vs:=[(vi y)]) (e.trans b) rfl rfl ⟨rfl,trivial⟩ ?_;exact⟨rfl,rfl⟩;refine zz (zo (zk (zl (uj z0b rfl rfl (P.mono b) (k.mono (e.trans b))) ?_)));obtain⟨V,B,a⟩:=zn a;refine ja rfl zq4 rfl (za7 (k.mono (e.trans b)) B) fun W X h C=>?_
 obtain⟨c,f,g,rfl,E,F,G⟩:=C;refine zg (vi 0) (z8 (zw (zi5 8 ?_)));refine z5h ?_;refine zk (zl (j5 rfl rfl) (z8 (zo ?_)));refine zae rfl (fun p=>?_) (fun p=>absurd p (by decide));clear p
 refine zz (zo (zw (zk (zl (zat (v:=(.agg #[(vi 9),(.func (.func 88) #[] #[c]),(vi 11),(.func (.func 90) #[] #[f]),(vi 12),(.func (.func 92) #[] #[g])])) (i:=(vi 0)) (u:=(.agg #[(vi 9),(.func (.func 88) #[] #[c])])) rfl rfl (fun w=>by kernel_rfl)) (jy rfl zk6 fun l=>?_)))))
 refine ko (i:=0) (vs:=[(vi 9),(.func (.func 88) #[] #[c])]) zj4 rfl rfl rfl rfl rfl rfl (qb rfl (qb rfl jr)) ?_;refine j3 (zl (qp zeh rfl) (zl (qi (i:=0) zmd rfl rfl rfl) ?_));obtain⟨Y,H,a⟩:=zn a;refine zby (cs:=[c]) (vs:=[]) rfl zp1 rfl rfl (z8p E H) fun Z aa d I=>?_
 obtain rfl:=I;refine zl (bz rfl) (z8 (zq rfl a (fun a=>?_) (fun a=>?_)));refine zk (zl (qp zdw rfl) (zl (qi (i:=0) zn3 rfl rfl rfl) (zh (vi 9) (z8 (qh ?_)))));obtain rfl:=Option.some.inj a
 refine zy (D:=[]) (J:=[box l [(vi 9),(.func (.func 88) #[] #[c])] 121]) (rs:=[.tmp 2]) (vs:=[(vi 9)]) (((e.trans b).trans h).trans d) rfl rfl ⟨rfl,trivial⟩ ?_;exact⟨rfl,rfl⟩;refine zz (zm (zl (jk rfl rfl (by decide)) (zg (vi 1) (z8 (z5h ?_)))));refine zk (zl (j5 rfl rfl) (z8 (zo ?_)))
 refine zae rfl (fun q=>?_) (fun q=>absurd q (by decide));clear q
 refine zz (zo (zw (zk (zl (zat (v:=(.agg #[(vi 9),(.func (.func 88) #[] #[c]),(vi 11),(.func (.func 90) #[] #[f]),(vi 12),(.func (.func 92) #[] #[g])])) (i:=(vi 1)) (u:=(.agg #[(vi 11),(.func (.func 90) #[] #[f])])) rfl rfl (fun w=>by kernel_rfl)) (jy rfl zk6 fun s=>?_)))))
 refine ko (i:=0) (vs:=[(vi 11),(.func (.func 90) #[] #[f])]) zj4 rfl rfl rfl rfl rfl rfl (qb rfl (qb rfl jr)) ?_;refine j3 (zl (qp zeh rfl) (zl (qi (i:=0) zmd rfl rfl rfl) ?_));obtain⟨ab,K,a⟩:=zn a
 refine zby (cs:=[f]) (vs:=[]) rfl zps rfl rfl (z8r (F.mono d) K) fun ac ad j L=>?_;obtain rfl:=L;refine zl (bz rfl) (z8 (zq rfl a (fun a=>?_) (fun a=>?_)));refine zk (zl (qp zdw rfl) (zl (qi (i:=0) zn3 rfl rfl rfl) (zh (vi 11) (z8 (qh ?_)))));obtain rfl:=Option.some.inj a
 refine zy (D:=[]) (J:=[box s [(vi 11),(.func (.func 90) #[] #[f])] 121,box l [(vi 9),(.func (.func 88) #[] #[c])] 121]) (rs:=[.tmp 2]) (vs:=[(vi 11)]) ((((e.trans b).trans h).trans d).trans j) rfl rfl ⟨rfl,trivial⟩ ?_;exact⟨rfl,rfl⟩
 refine zz (zm (zl (jk rfl rfl (by decide)) (zg (vi 2) (z8 (z5h ?_)))));refine zk (zl (j5 rfl rfl) (z8 (zo ?_)));refine zae rfl (fun t=>?_) (fun t=>absurd t (by decide));clear t
 refine zz (zo (zw (zk (zl (zat (v:=(.agg #[(vi 9),(.func (.func 88) #[] #[c]),(vi 11),(.func (.func 90) #[] #[f]),(vi 12),(.func (.func 92) #[] #[g])])) (i:=(vi 2)) (u:=(.agg #[(vi 12),(.func (.func 92) #[] #[g])])) rfl rfl (fun w=>by kernel_rfl)) (jy rfl zk6 fun z=>?_)))))
 refine ko (i:=0) (vs:=[(vi 12),(.func (.func 92) #[] #[g])]) zj4 rfl rfl rfl rfl rfl rfl (qb rfl (qb rfl jr)) ?_;refine j3 (zl (qp zeh rfl) (zl (qi (i:=0) zmd rfl rfl rfl) ?_));obtain⟨ae,M,a⟩:=zn a
 refine zby (cs:=[g]) (vs:=[]) rfl zpa rfl rfl (z8o (G.mono (d.trans j)) M) fun af ag n O=>?_;obtain rfl:=O;refine zl (bz rfl) (z8 (zq rfl a (fun a=>?_) (fun a=>?_)));refine zk (zl (qp zdw rfl) (zl (qi (i:=0) zn3 rfl rfl rfl) (zh (vi 12) (z8 (qh ?_)))))
 obtain rfl:=Option.some.inj a;refine zy (D:=[]) (J:=[box z [(vi 12),(.func (.func 92) #[] #[g])] 121,box s [(vi 11),(.func (.func 90) #[] #[f])] 121,box l [(vi 9),(.func (.func 88) #[] #[c])] 121]) (rs:=[.tmp 2]) (vs:=[(vi 12)]) (((((e.trans b).trans h).trans d).trans j).trans n) rfl rfl ⟨rfl,trivial⟩ ?_
 exact⟨rfl,rfl⟩;refine zz (zm (zl (jk rfl rfl (by decide)) (zg (vi 3) (z8 (z5h ?_)))));refine zk (zl (j5 rfl rfl) (z8 (zo (zae rfl (fun x=>absurd x (by decide)) (fun x=>?_)))));clear x;refine je ?_;refine zk (zh (vi 0) (z8 (qh ?_)));obtain rfl:=Option.some.inj a
 refine zy (D:=[]) (J:=[box z [(vi 12),(.func (.func 92) #[] #[g])] 121,box s [(vi 11),(.func (.func 90) #[] #[f])] 121,box l [(vi 9),(.func (.func 88) #[] #[c])] 121]) (rs:=[.tmp 2]) (vs:=[(vi 0)]) (((((e.trans b).trans h).trans d).trans j).trans n) rfl rfl ⟨rfl,trivial⟩ ?_;exact⟨rfl,rfl⟩
theorem zpe:Enters prog 56:=enters_of func56 rfl (by kernel_rfl)
theorem z2c{N:Nat}{R:RH}{m:Mach}{d:Value}(e:VRep (jg false false) R d m){r:Int}(a:z0w N m=some r):CallP prog 31 #[d] R (fun v R'=>v=(vi r)):=by
 refine qd (args:=[d]) func31 rfl rfl fun A=>?_;rw [z0w] at a;refine zk (u7 (T:=(jg false false)) rfl rfl rfl e fun q s c i j=>?_);refine zh (vi 0) (z8 (zo (zk (zl (uj z0b rfl rfl i (e.mono c)) ?_))));obtain⟨f,k,a⟩:=zn a
 refine ja rfl zpe rfl (z9f (e.mono c) k) fun t l b n=>?_;obtain rfl:=n;refine zh (vi f) (j3 (zg (vi f) (zl (ky rfl rfl) (z8 (zq rfl a (fun a=>?_) (fun a=>?_))))));refine zk (zg (vi f) (zh (vi f) (z8 (qh ?_))));obtain rfl:=Option.some.inj a
 refine zy (D:=[]) (J:=[]) (rs:=[.tmp 2]) (vs:=[(vi f)]) (c.trans b) rfl rfl ⟨rfl,trivial⟩ ?_;exact⟨rfl,rfl⟩;refine zz (zo (zk (jb rfl w9 kw rfl (j.mono b) fun o g=>?_)));refine qg rfl ik rfl g fun p h=>?_
 refine zl (qj rfl underlying28 rfl (jc h)) (zl (l6 rfl rfl) (z8 (zq rfl a (fun a=>?_) (fun a=>?_))));refine zk (zh (vi 3) (z8 (qh ?_)));obtain rfl:=Option.some.inj a;refine zy (D:=[]) (J:=[]) (rs:=[.tmp 2]) (vs:=[(vi 3)]) (c.trans b) rfl rfl ⟨rfl,trivial⟩ ?_;exact⟨rfl,rfl⟩
 refine zz (zk (zh (vi 0) (z8 (qh ?_))));obtain rfl:=Option.some.inj a;refine zy (D:=[]) (J:=[]) (rs:=[.tmp 2]) (vs:=[(vi 0)]) (c.trans b) rfl rfl ⟨rfl,trivial⟩ ?_;exact⟨rfl,rfl⟩
theorem zky:Enters prog 31:=enters_of func31 rfl (by kernel_rfl)
theorem zjg: ∀ w,∃ z,(zeroValue 92).run prog w= .ok z w∧z.cells=((ql (p8 6 (List.replicate 6 (0:Int))))).toArray:=fun w=>⟨(.agg #[(.int .u16 0),(.int .u16 0),(.int .u16 0),(.int .u16 0),(.int .u16 0),(.int .u16 0)]),by kernel_rfl,by kernel_rfl⟩
theorem zh0:ArrOk prog 92 6 1:=z7j (e:=71) underlying92 (fun w=>by kernel_rfl)
theorem zkk: ∀ w,(sizeOf 71).run prog w= .ok 1 w:=fun w=>by kernel_rfl
theorem z9q: ∀ w,(isAgg 92).run prog w= .ok true w:=fun w=>by kernel_rfl
theorem z5l: ∀ w,(sizeOf 92).run prog w= .ok 6 w:=fun w=>by kernel_rfl
theorem zcn{N:Nat}{R:RH}{n:Int}{r:(Arr 6 Int)}(c:z6s N n=some r):CallP prog 58 #[(vi n)] R (fun v R'=>v=(qx r)):=by
 refine qd (args:=[(vi n)]) func58 rfl rfl fun A=>?_;rw [z6s] at c;refine zk (jy rfl zjg fun l=>?_);refine z8 ?_;obtain⟨d,a,c⟩:=zn c;refine j4 (γ:=((Arr 6 Int))) (rs [3,18]) (fun g=>[]) (fun g=>[box l (ql g) 92]++A) (fun g R=>d=g∧True) ?_ ?_
 refine zk (zg (vi n) (zg (vi 0) (z8 (zw (jd (γ:=Nat×Int×((Arr 6 Int))) (rs [3,4,5,18]) (fun g=>[(5,(vi g.2.1))]) (fun g=>[box l (ql g.2.2) 92]++A) (fun g R=>z02 N n g.1 g.2.1 g.2.2=some d∧True) (fun g=>g.1) (N,0,(p8 6 (List.replicate 6 (0:Int)))) prm ⟨a,trivial⟩ ?_)))));clear a
 rintro⟨k,b,f⟩ y E h ⟨a,_⟩;rcases k with _|k;exact qy a;replace a:z02 N n (k+1) b f=some d:=a;rw [z02] at a;refine zk (zl (j5 rfl rfl) (z8 (zo (zq rfl a (fun a=>?_) (fun a=>?_)))))
 refine zz (zo (zw (zk (zg (vi b) (zh (vi b) (z8 (zm (zg (vi b) (zg (vi b) (zl (z8x underlying3 underlying71 rfl) ?_))))))))));obtain⟨m,a⟩:=ze a;refine zl (z3a rfl rfl m) (zg (vi n) ?_);obtain⟨p,a⟩:=ze a
 refine zl (z3a rfl rfl p) (zl (zc7 rfl rfl) ?_);obtain⟨s,a⟩:=ze a;refine zl (za9 rfl rfl s) ?_;obtain⟨e,a⟩:=ze a
 refine zl (dx (i:=b.toNat) zh0 rfl (zi rfl e.1) (Nat.lt_of_lt_of_eq (qc e) f.2)) (z2r (sz:=1) (cl:=(fun x:Int=>[Value.int .u16 x])) (z:=ior (si .u16 (IntKind.u16.wrap b) (8:Int)) (IntKind.u16.wrap ((si .u16 (1:Int) n)-1))) (vs:=[(.int .u16 (ior (si .u16 (IntKind.u16.wrap b) (8:Int)) (IntKind.u16.wrap ((si .u16 (1:Int) n)-1))))]) (q:=b) (i:=b.toNat) (o:=0) (j:=0) (X:=f) cells_int.len zkk rfl rfl (by omega) rfl (Nat.lt_of_lt_of_eq (qc e) f.2) rfl rfl rfl (qb rfl jr) rfl rfl ?_)
 refine z8 (zm ?_);obtain⟨t,a⟩:=ze a;refine zl (jk rfl rfl t) (zg (vi (b+1)) (z8 ?_));exact⟨dkt,(RH.le.refl _),kg,(k,b+1,(iw f b (ior (si .u16 (IntKind.u16.wrap b) (8:Int)) (IntKind.u16.wrap ((si .u16 (1:Int) n)-1))))),Nat.lt_succ_self _,⟨rfl,trivial⟩,prm,a,trivial⟩;refine je ?_
 exact⟨dkt,h,kg,f,trivial,prm,(Option.some.inj a).symm,trivial⟩;rintro d B F u ⟨rfl,_⟩;refine zk (zl (y7 (j:=0) (v:=(qx d)) z9q z5l rfl rfl (co_A6tIntu16.len _) rfl) (gy (j:=0) (cs:=(ql d)) (cs':=(ql d)) z5l rfl rfl (co_A6tIntu16.len _) (co_A6tIntu16.len _) rfl rfl (mh (ax _)) ?_))
 refine z8 (qh ?_);obtain rfl:=Option.some.inj c;refine zy (D:=[]) (J:=[box l (ql d) 92]) (rs:=[.cell 2 92]) (vs:=[(qx d)]) u rfl rfl ⟨⟨_,rfl,fun w C=>z2y (i:=0) C rfl z9q z5l (co_A6tIntu16.len _)⟩,trivial⟩ ?_;exact⟨rfl,rfl⟩
end GV
end Go.Proofs.Ytnnobdkjgafdmaa
