import Derived.Test.YtnnobdkjgafdmaaShWa
import Derived.Test.YtnnobdkjgafdmaaRows
set_option linter.unusedVariables false
set_option linter.unusedSimpArgs false
set_option linter.unusedSectionVars false
namespace Go.Proofs.Ytnnobdkjgafdmaa
namespace GV
open _root_.Go.Proofs.Try
open Go.IntWalk
set_option maxRecDepth 100000
set_option maxHeartbeats 20000000
theorem qdk:Enters prog 87:=enters_of func87 rfl (by kernel_rfl)
theorem zgu{N:Nat}{R:RH}{x:Edge}{p0_:Mach}{a:Value}(c:PRep (jy false false) R a p0_){r:Bool}(b:z99 N x p0_=some r):CallP prog 86 #[(z0l x),a] R (fun v R'=>v=(.bool r)):=by
 refine qh (args:=[(z0l x),a]) func86 rfl rfl fun A=>?_;rw [z99] at b;refine zk (zfs (T:=kEdge) rfl rfl (fq.2 rfl) fun n o d i=>?_);refine zi (.bool false) (j4 (qj rfl z2i rfl (c.mono d) fun p j=>?_));refine qj rfl zf1 rfl i fun q k=>?_;obtain rfl:=fq.1 k
 obtain⟨h,f,b⟩:=zo b;refine jh rfl qdk rfl (zkp j f) fun l m e g=>?_;obtain rfl:=g;refine zl (z0r rfl) (zi (.bool (!h)) (z8 (qx ?_)));obtain rfl:=Option.some.inj b;refine qd (D:=[]) (J:=[]) (rs:=[.tmp 3]) (vs:=[(.bool (!h))]) (d.trans e) rfl rfl ⟨rfl,trivial⟩ ?_;exact⟨rfl,rfl⟩
theorem qdr:Enters prog 86:=enters_of func86 rfl (by kernel_rfl)
theorem z6l{N:Nat}{R:RH}{m:Mach}{q:Value}(F:VRep (jy false false) R q m){r:Int}(b:z0u N m=some r):CallP prog 75 #[q] R (fun v R'=>v=(vi r)):=by
 refine qh (args:=[q]) func75 rfl rfl fun A=>?_;rw [z0u] at b;refine zk (ug (T:=(jy false false)) rfl rfl rfl F fun E R3 k h5 l=>?_);refine zi (vi 0) (z8 (zt (zk (zqg rfl (bn z4m z5g rfl l) fun v6 h7=>?_))))
 refine jq rfl (nz (kw ty3 rfl h7)) (jq rfl (z5a rfl rfl) (jq (v:=(.bool (decide (16<m.inputs)))) rfl (zf rfl) (qz rfl rfl rfl rfl (fun c=>bn zby z8e rfl l) fun ak G=>?_)));refine qz rfl rfl rfl rfl (fun c=>ql (nz (kw ty3 rfl (G.1 (zn rfl c))))) fun al H=>?_
 refine qz rfl rfl rfl rfl (fun c=>ql (z5a (H.1 (zn rfl c)) rfl)) fun am I=>?_;refine jq rfl (r9 rfl rfl (fun n=>(I.1 (zn rfl n)))) (jq (v:=(.bool ((decide (16<m.inputs))||(decide (16<m.outputs))))) rfl (zf rfl) (qz rfl rfl rfl rfl (fun c=>bn xc uy rfl l) fun an K=>?_))
 refine qz rfl rfl rfl rfl (fun c=>kw z3p rfl (K.1 (zn rfl c))) fun ao L=>?_;refine qz rfl rfl rfl rfl (fun c=>ql (qw rfl underlying28 rfl (ja (L.1 (zn rfl c))))) fun ap M=>?_;refine qz rfl rfl rfl rfl (fun c=>ql (z5a (M.1 (zn rfl c)) rfl)) fun aq O=>?_
 refine jq rfl (r9 rfl rfl (fun n=>(O.1 (zn rfl n)))) (z8 (zu rfl b (fun b=>?_) (fun b=>?_)));refine zk (zi (vi 3) (z8 (qx ?_)));obtain rfl:=Option.some.inj b;refine qd (D:=[]) (J:=[]) (rs:=[.tmp 2]) (vs:=[(vi 3)]) k rfl rfl ⟨rfl,trivial⟩ ?_;exact⟨rfl,rfl⟩
 refine qa (zt (zk (zqg rfl (bn z4m z5g rfl l) fun ar P=>?_)));refine jq rfl (nz (kw ty3 rfl P)) (jq rfl (j6 rfl rfl) (jq (v:=(.bool (decide (m.inputs<1)))) rfl (zf rfl) (qz rfl rfl rfl rfl (fun c=>bn zby z8e rfl l) fun au Q=>?_)))
 refine qz rfl rfl rfl rfl (fun c=>ql (nz (kw ty3 rfl (Q.1 (zn rfl c))))) fun av S=>?_;refine qz rfl rfl rfl rfl (fun c=>ql (j6 (S.1 (zn rfl c)) rfl)) fun aw U=>?_
 refine jq rfl (r9 rfl rfl (fun n=>(U.1 (zn rfl n)))) (jq (v:=(.bool ((decide (m.inputs<1))||(decide (m.outputs<1))))) rfl (zf rfl) (qz rfl rfl rfl rfl (fun c=>bn xc uy rfl l) fun ax V=>?_));refine qz rfl rfl rfl rfl (fun c=>kw z3p rfl (V.1 (zn rfl c))) fun ay W=>?_
 refine qz rfl rfl rfl rfl (fun c=>ql (qw rfl underlying28 rfl (ja (W.1 (zn rfl c))))) fun az X=>?_;refine qz rfl rfl rfl rfl (fun c=>ql (j6 (X.1 (zn rfl c)) rfl)) fun aA Y=>?_;refine jq rfl (r9 rfl rfl (fun n=>(Y.1 (zn rfl n)))) (z8 (zu rfl b (fun b=>?_) (fun b=>?_)))
 refine zk (zi (vi 1) (z8 (qx ?_)));obtain rfl:=Option.some.inj b;refine qd (D:=[]) (J:=[]) (rs:=[.tmp 2]) (vs:=[(vi 1)]) k rfl rfl ⟨rfl,trivial⟩ ?_;exact⟨rfl,rfl⟩;refine qa ?_;obtain⟨s,a,b⟩:=zo b;refine qp (γ:=Unit) (rs [2,3,4,5,33,51]) (fun g=>[]) (fun g=>[]++A) (fun g R=>s=Ex.go g∧True) ?_ ?_
 refine zk (je rfl xc uy rfl l fun aB Z=>?_);refine qj rfl z3p rfl Z fun aC t=>?_
 refine zl (qw rfl underlying28 rfl (ja t)) (zh (vi 0) (z8 (zx (jc (γ:=Nat×Int) (rs [2,3,4,5,36,51]) (fun g=>[(36,(vi g.2))]) (fun g=>[]++A) (fun g R=>rq N m g.1 g.2=some s∧True) (fun g=>g.1) (N,0) prm ⟨a,trivial⟩ ?_))));clear a;rintro⟨o,e⟩ ah aD d ⟨a,_⟩;rcases o with _|o
 exact qo a;replace a:rq N m (o+1) e=some s:=a;rw [rq] at a;refine zk (zl (j6 rfl rfl) (z8 (zt (zu rfl a (fun a=>?_) (fun a=>?_)))));refine qa (zt (zx (zk ?_)));obtain⟨u,a⟩:=zb a
 refine kg (i:=e.toNat) rfl zaq rfl (ja (t.mono d)) (zg rfl u.1) (zy u) fun aE aa=>?_;refine qj rfl za8 rfl aa fun p w=>?_;refine zi p (j4 (jq (v:=p) rfl (zf rfl) (jq rfl (qw rfl underlying58 rfl (ja w)) (zqg rfl (bn z4m z5g rfl (l.mono d)) fun aF ab=>?_))))
 refine jq rfl (nz (kw ty3 rfl ab)) (jq rfl (xm rfl rfl) (jq (v:=(.bool (decide ((↑(ix m.rows e).length:Int)≠m.inputs)))) rfl (zf rfl) (qz rfl rfl rfl rfl (fun c=>ql (v:=p) (zf rfl)) fun aG ac=>?_)))
 refine qz rfl rfl rfl rfl (fun c=>ql (v:=(.func (.func 86) #[] #[E])) (z1o (fs:=[]) (cs:=[E]) rfl rfl)) fun aH ad=>?_;obtain⟨ae,af,a⟩:=zo a
 refine z6s rfl rfl rfl rfl (fun c=>pg (vs:=[p,(.func (.func 86) #[] #[E])]) qdf (za9 (ac.1 (zn rfl c)) (za9 (ad.1 (zn rfl c)) rfl)) ((by have ag:=(z3z af (zn rfl c));exact z90 w (zy7 (cs:=[E]) qdr fun R1 hq z0 u0 y k0 hy=>by obtain rfl:=fq.1 k0;exact CallP.mono (zgu ((l.mono d).mono hq) hy) fun v R2 _ hv=>z11.2 hv) ag)) (fun _ _ h=>h)) fun x z f j=>?_
 replace j:phG (true&&((decide ((↑(ix m.rows e).length:Int)≠m.inputs))==false)) (phX (.bool (ae.getD default))) x z:=j;refine jq rfl (r9 rfl rfl (fun n=>(j.1 (zn rfl n)))) (z8 (zu rfl a (fun a=>?_) (fun a=>?_)));refine zk (zi (vi 1) (z8 (qx ?_)));replace b:=z2q a b;obtain rfl:=Option.some.inj b
 refine qd (D:=[]) (J:=[]) (rs:=[.tmp 2]) (vs:=[(vi 1)]) ((k.trans d).trans f) rfl rfl ⟨rfl,trivial⟩ ?_;exact⟨rfl,rfl⟩;refine qa (zm ?_);obtain⟨B,a⟩:=zb a;refine zl (jg rfl rfl B) (zh (vi (e+1)) (z8 ?_));exact⟨dkt,f,jm,(o,e+1),Nat.lt_succ_self _,⟨rfl,trivial⟩,prm,a,trivial⟩
 refine jf ?_;exact⟨dkt,d,jm,(),trivial,prm,(Option.some.inj a).symm,trivial⟩;rintro aM ai aN C ⟨rfl,_⟩;replace b:=z4h b;refine zk (zi (vi 0) (z8 (qx ?_)));obtain rfl:=Option.some.inj b;refine qd (D:=[]) (J:=[]) (rs:=[.tmp 2]) (vs:=[(vi 0)]) (k.trans C) rfl rfl ⟨rfl,trivial⟩ ?_;exact⟨rfl,rfl⟩
theorem q5a:Enters prog 75:=enters_of func75 rfl (by kernel_rfl)
theorem qb8: ∀ w,∃ z,(zeroValue 122).run prog w= .ok z w∧z.cells=([.int .i64 0,.nilFunc,.int .i64 0,.nilFunc,.int .i64 0,.nilFunc]:List Value).toArray:=fun w=>⟨(.agg #[(vi 0),.nilFunc,(vi 0),.nilFunc,(vi 0),.nilFunc]),by kernel_rfl,rfl⟩
theorem q7d: ∀ w,(sizeOf 122).run prog w= .ok 6 w:=fun w=>by kernel_rfl
theorem qcs: ∀ w,(isAgg 122).run prog w= .ok true w:=fun w=>by kernel_rfl
theorem ziu{N:Nat}{R:RH}{m:Mach}{b:Value}(d:VRep (jy false false) R b m){r:Mach×Mach×Mach}(c:z9y N m=some r):CallP prog 76 #[b] R (fun v R'=> ∃ u0 g h,v= .agg #[(vi 9),.func (.func 88) #[] #[u0],(vi 11),.func (.func 90) #[] #[g],(vi 12),.func (.func 92) #[] #[h]]∧PRep (jy false false) R' u0 r.1∧PRep (jy false false) R' g r.2.1∧PRep (jy false false) R' h r.2.2):=by
 refine qh (args:=[b]) func76 rfl rfl fun A=>?_;rw [z9y] at c;refine zk (ug (T:=(jy false false)) rfl rfl rfl d fun a l e n f=>?_);refine kv rfl qb8 fun j=>?_
 refine j4 (zl (z1o (fs:=[]) (cs:=[a]) rfl rfl) (zl (bg (ps:=[(0,(vi 9)),(1,(.func (.func 88) #[] #[a]))]) (v:=(.agg #[(vi 9),(.func (.func 88) #[] #[a])])) rfl (fun w=>by kernel_rfl)) (zl (z1o (fs:=[]) (cs:=[a]) rfl rfl) (zl (bg (ps:=[(0,(vi 11)),(1,(.func (.func 90) #[] #[a]))]) (v:=(.agg #[(vi 11),(.func (.func 90) #[] #[a])])) rfl (fun w=>by kernel_rfl)) (zl (z1o (fs:=[]) (cs:=[a]) rfl rfl) (zl (bg (ps:=[(0,(vi 12)),(1,(.func (.func 92) #[] #[a]))]) (v:=(.agg #[(vi 12),(.func (.func 92) #[] #[a])])) rfl (fun w=>by kernel_rfl)) (zl (bg (ps:=[(0,(.agg #[(vi 9),(.func (.func 88) #[] #[a])])),(1,(.agg #[(vi 11),(.func (.func 90) #[] #[a])])),(2,(.agg #[(vi 12),(.func (.func 92) #[] #[a])]))]) (v:=(.agg #[(vi 9),(.func (.func 88) #[] #[a]),(vi 11),(.func (.func 90) #[] #[a]),(vi 12),(.func (.func 92) #[] #[a])])) rfl (fun w=>by kernel_rfl)) (jr (i:=0) (vs:=[(vi 9),(.func (.func 88) #[] #[a]),(vi 11),(.func (.func 90) #[] #[a]),(vi 12),(.func (.func 92) #[] #[a])]) q7d rfl rfl rfl rfl rfl rfl (qf rfl (qf rfl (qf rfl (qf rfl (qf rfl (qf rfl jv)))))) ?_))))))))
 refine z8 (qx ?_);obtain rfl:=Option.some.inj c
 refine qd (D:=[]) (J:=[box j [(vi 9),(.func (.func 88) #[] #[a]),(vi 11),(.func (.func 90) #[] #[a]),(vi 12),(.func (.func 92) #[] #[a])] 122]) (rs:=[.cell 2 122]) (vs:=[(.agg #[(vi 9),(.func (.func 88) #[] #[a]),(vi 11),(.func (.func 90) #[] #[a]),(vi 12),(.func (.func 92) #[] #[a])])]) e rfl rfl ⟨⟨_,rfl,fun w k=>z0z (i:=0) k rfl rfl qcs q7d rfl rfl⟩,trivial⟩ ?_
 exact⟨rfl,⟨a,a,a,rfl,f,f,f⟩⟩
theorem qdx:Enters prog 76:=enters_of func76 rfl (by kernel_rfl)
theorem q2c: ∀ w,∃ z,(zeroValue 121).run prog w= .ok z w∧z.cells=([.int .i64 0,.nilFunc]:List Value).toArray:=fun w=>⟨(.agg #[(vi 0),.nilFunc]),by kernel_rfl,rfl⟩
theorem q40: ∀ w,(sizeOf 121).run prog w= .ok 2 w:=fun w=>by kernel_rfl
theorem zqa:FieldOk prog 121 1 1:=by
 obtain⟨i,hi,a⟩: ∃ i,prog.info? 41=some i∧i.size=1:=uz (by kernel_rfl);exact au underlying121 rfl rfl hi (by rw [a];rfl)
theorem q9j: ∀ w,(isAgg 41).run prog w= .ok false w:=fun w=>by kernel_rfl
theorem qbl: ∀ w,∃ z,(zeroValue 146).run prog w= .ok z w∧z.cells=([.slice none 0 0]:List Value).toArray:=fun w=>⟨vs0,by kernel_rfl,rfl⟩
theorem zj6{N:Nat}{R:RH}{m:Mach}{a:Value}(d:VRep (jy false false) R a m){r:Mach}(b:z7z N m=some r):CallP prog 106 #[a] R (fun v R'=> ∃ u0,v= .func (.func 112) #[] #[u0]∧PRep (jy false false) R' u0 r):=by
 refine qh (args:=[a]) func106 rfl rfl fun A=>?_;rw [z7z] at b;refine zk (ug (T:=(jy false false)) rfl rfl rfl d fun c g e h f=>?_);refine zi .nilFunc (j4 (zl (z1o (fs:=[]) (cs:=[c]) rfl rfl) (zi (.func (.func 112) #[] #[c]) (z8 (qx ?_)))));obtain rfl:=Option.some.inj b
 refine qd (D:=[]) (J:=[]) (rs:=[.tmp 2]) (vs:=[(.func (.func 112) #[] #[c])]) e rfl rfl ⟨rfl,trivial⟩ ?_;exact⟨rfl,⟨c,rfl,f⟩⟩
theorem qch:Enters prog 106:=enters_of func106 rfl (by kernel_rfl)
theorem zgv{N:Nat}{R:RH}{p0_:Mach}{e:Value}(r:PRep (jy false false) R e p0_):zy1 prog 112 [e] R (fun(x:((Int×Int)×Edge)) vs R=>vs=[(zod x.1),(z0l x.2)]) (fun σ B s=>z4u N p0_ σ B s):=by
 intro yv σ B I R1 O s0 Y C ac h0 c hy;refine z7t (args:=[yv,e]) func112 rfl rfl fun A=>?_;dsimp only at c;rw [z4u] at c;refine zk (je rfl xc uy rfl (r.mono C) fun v1 h2=>?_);refine qj rfl z3p rfl h2 fun v3 Z=>?_
 refine zl (qw rfl underlying28 rfl (ja Z)) (zh (vi 0) (z8 (zx (jc (γ:=Nat×σ×Int×(List Frag)) (rs [3,7,10,31]) (fun g=>[(10,(vi g.2.2.1))]) (fun g=>[]++(g.2.2.2++A)) (fun g R=>si N σ B p0_ g.1 g.2.1 g.2.2.1=some Y∧I g.2.1 R g.2.2.2∧True) (fun g=>g.1) (N,s0,0,O) prm ⟨c,h0,trivial⟩ ?_))));clear c
 rintro⟨P,x6,d,k⟩ ag R8 h ⟨c,l,_⟩;rcases P with _|P;exact qo c;replace c:si N σ B p0_ (P+1) x6 d=some Y:=c;rw [si] at c;refine zk (zl (j6 rfl rfl) (z8 (zt (zu rfl c (fun c=>?_) (fun c=>?_)))));refine qa ?_;obtain⟨t,b,c⟩:=zo c
 refine qp (γ:=σ×(List Frag)) (rs [3,7,12,30]) (fun g=>[]) (fun g=>[]++(g.2++A)) (fun g R=>t=Ex.go g.1∧I g.1 R g.2∧True) ?_ ?_;refine zx (zk (zh (vi d) ?_));obtain⟨E,b⟩:=zb b;refine kg (i:=d.toNat) rfl zaq rfl (ja (Z.mono h)) (zg rfl E.1) (zy E) fun ah Q=>?_
 refine qj rfl za8 rfl Q fun F G=>?_
 refine zi (vi d) (zi F (j4 (zh F (zl (qw rfl underlying58 rfl (ja G)) (zh (vi 0) (z8 (zx (jc (γ:=Nat×σ×Int×(List Frag)) (rs [5,7,17,30]) (fun g=>[(17,(vi g.2.2.1))]) (fun g=>[]++(g.2.2.2++A)) (fun g R=>aa N σ B p0_ d g.1 g.2.1 g.2.2.1=some t∧I g.2.1 R g.2.2.2∧True) (fun g=>g.1) (N,x6,0,k) prm ⟨b,l,trivial⟩ ?_))))))))
 clear b;rintro⟨j,u,a,m⟩ ai aj f ⟨b,n,_⟩;rcases j with _|j;exact qo b;replace b:aa N σ B p0_ d (j+1) u a=some t:=b;rw [aa] at b;refine zk (zl (j6 rfl rfl) (z8 (zt (zu rfl b (fun b=>?_) (fun b=>?_)))))
 refine qa (zt (zx (zk (zh (vi a) ?_))));obtain⟨H,b⟩:=zb b;refine kg (i:=a.toNat) rfl zb5 rfl (ja (G.mono f)) (zg rfl H.1) (zy H) fun ak S=>?_;refine qj rfl zf1 rfl S fun al T=>?_;obtain rfl:=fq.1 T;refine kv rfl zen fun y=>?_
 refine zi (vi a) (jr (i:=0) (vs:=[(vi ((ix (ix p0_.rows d) a).to)),(vi ((ix (ix p0_.rows d) a).out))]) zbf rfl rfl rfl rfl rfl rfl (qf rfl (qf rfl jv)) ?_)
 refine j4 (zh yv (zh (vi d) (zh (vi a) (zl (bg (ps:=[(0,(vi d)),(1,(vi a))]) (v:=(.agg #[(vi d),(vi a)])) rfl (fun w=>by kernel_rfl)) (zl (ui (i:=0) q03 zbf rfl rfl rfl rfl) ?_)))));obtain⟨z,U,b⟩:=zo b
 refine zjr (vs:=[(.agg #[(vi d),(vi a)]),(.agg #[(vi ((ix (ix p0_.rows d) a).to)),(vi ((ix (ix p0_.rows d) a).out))])]) (J:=[box y [(vi ((ix (ix p0_.rows d) a).to)),(vi ((ix (ix p0_.rows d) a).out))] 57]) (Oc:=m) (A:=A) rfl rfl rfl rfl (hy (((d,a):(Int×Int)),(⟨(ix (ix p0_.rows d) a).to,(ix (ix p0_.rows d) a).out⟩:Edge)) u z.1 z.2 _ _ [(.agg #[(vi d),(vi a)]),(.agg #[(vi ((ix (ix p0_.rows d) a).to)),(vi ((ix (ix p0_.rows d) a).out))])] (h.trans f) rfl n U) fun am o p q=>?_
 refine zl (z0r rfl) (z8 (zu rfl b (fun b=>?_) (fun b=>?_)));refine qx ?_;replace c:=z2q b c;obtain rfl:=Option.some.inj c;refine z5k (D:=[]) (J:=[box y [(vi ((ix (ix p0_.rows d) a).to)),(vi ((ix (ix p0_.rows d) a).out))] 57]) (O':=o) (rs:=[]) (vs:=[]) ((h.trans f).trans p) (List.Perm.refl _) rfl trivial ?_
 exact q;refine qa (zm ?_);obtain⟨V,b⟩:=zb b;refine zl (jg rfl rfl V) (zh (vi (a+1)) (z8 ?_));exact⟨dkt,p,jm,(j,z.2,a+1,o),Nat.lt_succ_self _,⟨rfl,trivial⟩,⟨[box y [(vi ((ix (ix p0_.rows d) a).to)),(vi ((ix (ix p0_.rows d) a).out))] 57],(List.Perm.refl _)⟩,b,q,trivial⟩
 refine jf ?_;exact⟨dkt,f,jm,(u,m),trivial,prm,(Option.some.inj b).symm,n,trivial⟩;rintro⟨W,K⟩ an ao L ⟨rfl,M,_⟩;replace c:=z4h c;refine zm ?_;obtain⟨X,c⟩:=zb c;refine zl (jg rfl rfl X) (zh (vi (d+1)) (z8 ?_))
 exact⟨dkt,L,jm,(P,W,d+1,K),Nat.lt_succ_self _,⟨rfl,trivial⟩,prm,c,M,trivial⟩;refine jf ?_;show zir _ _ _ _ _ .ret _ [] _ _;obtain rfl:=Option.some.inj c;refine z5k (D:=[]) (J:=[]) (O':=k) (rs:=[]) (vs:=[]) h (List.Perm.refl _) rfl trivial ?_;exact l
theorem qbe:Enters prog 112:=enters_of func112 rfl (by kernel_rfl)
theorem qby: ∀ w,∃ z,(zeroValue 158).run prog w= .ok z w∧z.cells=([.int .i64 0,.int .i64 0]:List Value).toArray:=fun w=>⟨(.agg #[(vi 0),(vi 0)]),by kernel_rfl,rfl⟩
theorem q1i: ∀ w,(sizeOf 158).run prog w= .ok 2 w:=fun w=>by kernel_rfl
theorem q7n: ∀ w,(isAgg 146).run prog w= .ok false w:=fun w=>by kernel_rfl
theorem qca: ∀ w,(isAgg 158).run prog w= .ok true w:=fun w=>by kernel_rfl
theorem q7v:ZeroOk prog 158 kA2tInti64 (((0:Int),(0:Int)):(Int×Int)) 16:=by
 obtain⟨i,zv,hi,a,c,d,f⟩:=z3q (P:=prog) (e:=158) (zv:=(.agg #[(vi 0),(vi 0)])) (k:=2) (b:=16) (by kernel_rfl);exact⟨i,zv,hi,a,c,d,fun R=>by subst f;exact⟨_,_,rfl,rfl,rfl⟩⟩
theorem qb5: ∀ w,(sizeOf 146).run prog w= .ok 1 w:=fun w=>by kernel_rfl
theorem qav:TyOk prog 158 kA2tInti64:=by
 obtain⟨i,hi,a⟩: ∃ i,prog.info? 158=some i∧i.size=2:=uz (by kernel_rfl);exact z2n underlying158 hi rfl a
theorem qcd:SlOk prog 146 158 kA2tInti64:=⟨underlying146,qav⟩
theorem zf0{N:Nat}{R:RH}{s:(List (Int×Int))}{a:Value}(b:VRep (tSl false kA2tInti64) R a s){r:(List (Int×Int))}(c:z4y N s=some r):CallP prog 107 #[a] R (fun v R'=>VRep (tSl true kA2tInti64) R' v r):=by
 refine qh (args:=[a]) func107 rfl rfl fun A=>?_;rw [z4y] at c;refine zk (zi vs0 (j4 (zh a (zh a (zl (qw rfl underlying146 rfl (ja b)) (zh a (zl (qw rfl underlying146 rfl (ja b)) ?_)))))));obtain⟨d,c⟩:=zb c
 refine zco (v:=a) (lo:=(0:Int).toNat) (hi:=(↑s.length:Int).toNat) (mx:=(↑s.length:Int).toNat) rfl qcd rfl (ja b) (.inl ⟨rfl,rfl⟩) (.inr ⟨_,congrArg some (zg rfl (zkh d))⟩) (.inr ⟨_,congrArg some (zg rfl (zkh d))⟩) (zlr d) (zbk d) (Nat.le_refl _) (Nat.le_trans (zbk d) (zw9 (ja b))) (X':=(cut s 0 (↑s.length:Int))) rfl fun f g e=>?_
 have h:VRep (tSl true kA2tInti64) R f (cut s 0 (↑s.length:Int)):=z3o g (e.trans (zpw d).symm);refine zi f (z8 (qx ?_));obtain rfl:=Option.some.inj c;refine qd (D:=[]) (J:=[]) (rs:=[.tmp 2]) (vs:=[f]) (RH.le.refl _) rfl rfl ⟨rfl,trivial⟩ ?_;exact⟨rfl,h⟩
theorem qbt:Enters prog 107:=enters_of func107 rfl (by kernel_rfl)
theorem zeq{N:Nat}{R:RH}{m:Mach}{t:Value}(u:VRep (jy false false) R t m){r:(List (Int×Int))}(d:z3i N m=some r):CallP prog 100 #[t] R (fun v R'=>VRep (tSl true kA2tInti64) R' v r):=by
 refine qh (args:=[t]) func100 rfl rfl fun A=>?_;rw [z3i] at d;refine zk (ug (T:=(jy false false)) rfl rfl rfl u fun v1 R3 w h5 h2=>?_);refine zi vs0 (j4 (kv rfl qbl fun E=>?_));refine z8 (zt (zk (zl (u7 z2i rfl rfl h5 (u.mono w)) ?_)));obtain⟨y8,c9,d⟩:=zo d
 refine jh rfl qch rfl (zj6 (u.mono w) c9) fun aB aC F U=>?_;obtain⟨aD,rfl,V⟩:=U;refine z8 (zx (z2l ?_));obtain⟨W,Z,d⟩:=zo d
 refine zn1 (Oc:=[emp,box E [vs0] 146]) (Or:=A) _ (fun(s:List (Int×Int)) R O=> ∃ (e:Value) (f:Frag),(∃ J,O.Perm (J++[box E [e] 146,f]))∧ORep kA2tInti64 R f e s∧True) (fun(s:List (Int×Int)) (c:Code) R O=>False) _ _ rfl qbe (zgv (N:=N) V) (List.Perm.refl _) (by decide) (by rintro _ _ _ rfl;rfl) (by rintro s R2 R3 O2 n ⟨e,f,G,o,_⟩;exact⟨e,f,G,o.mono n,trivial⟩) (fun _ _ _ _ _ _ h=>h) (fun _ _ _ _ _ h=>h.elim) ⟨vs0,emp,⟨[],(pk 1 rfl (pk 0 rfl (List.Perm.refl _)))⟩,(lm (T:=kA2tInti64)),trivial⟩ Z ?_ ?_ ?_
 rintro a aa aE aF ar aG au av aw H ⟨e,f,⟨_,G⟩,o,_⟩ p aH;have b:=p;clear p;(try dsimp only at b);refine zhu (zlm G) ?_;obtain rfl:=H;refine zk (kv rfl qby fun j=>?_);refine jr (i:=0) (vs:=[(vi a.1.1),(vi a.1.2)]) q1i rfl rfl rfl rfl rfl rfl (qf rfl (qf rfl jv)) ?_
 refine z8 (zm (kv rfl zen fun k=>?_));refine jr (i:=0) (vs:=[(vi a.2.to),(vi a.2.out)]) zbf rfl rfl rfl rfl rfl rfl (qf rfl (qf rfl jv)) ?_;refine z8 ?_
 refine⟨rfl,rfl,(RH.le.refl _),[box k [(vi a.2.to),(vi a.2.out)] 57,box j [(vi a.1.1),(vi a.1.2)] 158,box E [e] 146,f],List.Perm.refl _,fun aI=>?_⟩;refine zx (zt ?_);obtain⟨x,ab,b⟩:=zo b
 refine oh 3 [] [phX (.agg #[(vi a.2.to),(vi a.2.out)]),phX (z0l x),phX (.bool (decide (a.2.to=x.to∧a.2.out=x.out)))] mixed (by kernel_rfl) (bi ⟨zq,zq,zq,trivial⟩) ⟨?_,?_,?_,trivial⟩ fun aJ g=>?_;intro l aK n ha hd;exact za rfl rfl rfl (q8 (ui (i:=0) q03 zbf (ha 5 rfl) rfl rfl rfl))
 intro l aM n ha hd;exact za rfl rfl rfl (pg (vs:=[]) qbd rfl (zdw  ab) (fun _ _ h=>h));rintro l aN n ha ⟨d0,d1,_⟩;exact za rfl rfl rfl (q8 (zt7 qae (d0 rfl) (d1 rfl)));intro aQ ad aR ae aS af;obtain rfl:=Eq.symm ad;obtain rfl:=Eq.symm ae;obtain rfl:=Eq.symm af;refine z8 (zu rfl b (fun b=>?_) (fun b=>?_))
 refine zm (zl (qi (i:=2) q7n rfl rfl rfl) (zl (ui (i:=1) qca q1i rfl rfl rfl rfl) (sw (T:=kA2tInti64) (X:=([((a.1.1,a.1.2):(Int×Int))]:List (Int×Int))) (ps:=[(0,(.agg #[(vi a.1.1),(vi a.1.2)]))]) (css:=[[(vi a.1.1),(vi a.1.2)]]) rfl underlying146 q7v rfl rfl (ky ⟨⟨_,_,rfl,rfl,rfl⟩,trivial⟩) rfl rfl (by decide) fun ag aT y ah=>?_)))
 refine vo (i:=0) rfl ah fun ai q aj=>?_;have ak:VRep (tSl true kA2tInti64) ai ag ([((a.1.1,a.1.2):(Int×Int))]:List (Int×Int)):=(z3o aj y);obtain⟨I,b⟩:=zb b
 refine pu (i:=3) (X:=aa) (Y:=([((a.1.1,a.1.2):(Int×Int))]:List (Int×Int))) rfl underlying146 q7v rfl rfl rfl (o.mono (g.trans q)) (ja (Sub.v (B:=(tSl false kA2tInti64)) (uh Sub.refl (fun _=>rfl)) ak)) I.1 I.2 fun z K C=>?_
 refine jr (i:=2) (vs:=[z]) qb5 rfl rfl (lw C) rfl rfl rfl (qf (z0w C) jv) ?_;refine z8 ?_;obtain⟨rfl,rfl⟩:=Prod.mk.inj (Option.some.inj b)
 exact⟨rfl,(g.trans q),[box k [(vi a.2.to),(vi a.2.out)] 57,box j [(vi a.1.1),(vi a.1.2)] 158,box E [z] 146,K],List.Perm.refl _,rfl,⟨z,K,⟨[box k [(vi a.2.to),(vi a.2.out)] 57,box j [(vi a.1.1),(vi a.1.2)] 158],(List.Perm.refl _)⟩,C,trivial⟩⟩;refine qa ?_
 obtain⟨rfl,rfl⟩:=Prod.mk.inj (Option.some.inj b)
 exact⟨rfl,g,[box k [(vi a.2.to),(vi a.2.out)] 57,box j [(vi a.1.1),(vi a.1.2)] 158,box E [e] 146,f],List.Perm.refl _,rfl,⟨e,f,⟨[box k [(vi a.2.to),(vi a.2.out)] 57,box j [(vi a.1.1),(vi a.1.2)] 158],(List.Perm.refl _)⟩,(o.mono g),trivial⟩⟩
 rintro aU aV ax L ⟨M,aW,⟨_,G⟩,al,_⟩;refine⟨_,_,G,?_⟩;refine zk (zl (qi (i:=0) q7n rfl rfl rfl) (vo (i:=1) rfl al fun am P an=>?_));have ao:VRep (tSl false kA2tInti64) am M W:=(z5v an);obtain⟨aX,ap,d⟩:=zo d;refine jh rfl qbt rfl (zf0 ao ap) fun Q aY S aq=>?_
 refine zi Q (z8 (qx ?_));obtain rfl:=Option.some.inj d;refine qd (D:=[]) (J:=[box E [M] 146]) (rs:=[.tmp 2]) (vs:=[Q]) ((((w.trans F).trans L).trans P).trans S) rfl rfl ⟨rfl,trivial⟩ ?_;exact⟨rfl,aq⟩;exact fun _ _ _ _ _ h=>h.elim
theorem qab:Enters prog 100:=enters_of func100 rfl (by kernel_rfl)
theorem zg2{N:Nat}{R:RH}{m:Mach}{e:Value}(d:VRep (jy false false) R e m){r:Bool×Int}(a:z4a N m=some r):CallP prog 89 #[e] R (fun v R'=>v= .tuple #[(.bool r.1),(vi r.2)]):=by
 refine qh (args:=[e]) func89 rfl rfl fun A=>?_;rw [z4a] at a;refine zk (ug (T:=(jy false false)) rfl rfl rfl d fun s t c k u=>?_);refine zi (.bool false) (zi (vi 0) (z8 (zt (zk (zl (u7 z2i rfl rfl k (d.mono c)) ?_)))));obtain⟨f,l,a⟩:=zo a
 refine jh rfl q5a rfl (z6l (d.mono c) l) fun w n b o=>?_;obtain rfl:=o;refine zi (vi f) (j4 (zh (vi f) (zl (xm rfl rfl) (z8 (zu rfl a (fun a=>?_) (fun a=>?_))))));refine zk (zh (vi f) (zi (.bool false) (zi (vi f) (z8 (qx ?_)))));obtain rfl:=Option.some.inj a
 refine qd (D:=[]) (J:=[]) (rs:=[.tmp 2,.tmp 3]) (vs:=[(.bool false),(vi f)]) (c.trans b) rfl rfl ⟨rfl,rfl,trivial⟩ ?_;exact⟨rfl,rfl⟩;refine qa (zk (zl (u7 z2i rfl rfl (k.mono b) (d.mono (c.trans b))) ?_));obtain⟨g,i,a⟩:=zo a
 refine jh rfl qab rfl (zeq (d.mono (c.trans b)) i) fun p q h j=>?_;refine zl (qw rfl underlying146 rfl (ja j)) (zl (yu rfl rfl) (zi (.bool (decide ((↑g.length:Int)=0))) (zi (vi 0) (z8 (qx ?_)))));obtain rfl:=Option.some.inj a
 refine qd (D:=[]) (J:=[]) (rs:=[.tmp 2,.tmp 3]) (vs:=[(.bool (decide ((↑g.length:Int)=0))),(vi 0)]) ((c.trans b).trans h) rfl rfl ⟨rfl,rfl,trivial⟩ ?_;exact⟨rfl,rfl⟩
theorem qcy:Enters prog 89:=enters_of func89 rfl (by kernel_rfl)
theorem zg5{N:Nat}{R:RH}{p0_:Mach}{a:Value}(c:PRep (jy false false) R a p0_){r:Bool}(b:z3x N p0_=some r):CallP prog 88 #[a] R (fun v R'=>v=(.bool r)):=by
 refine qh (args:=[a]) func88 rfl rfl fun A=>?_;rw [z3x] at b;refine zk (zi (.bool false) (j4 (qj rfl z2i rfl c fun i f=>?_)));obtain⟨d,g,b⟩:=zo b;refine jh rfl qcy rfl (zg2 f g) fun j k e h=>?_;obtain rfl:=h
 refine zh (.tuple #[(.bool d.1),(vi d.2)]) (zl (jl rfl rfl) (zl (jl rfl rfl) (zi (.bool d.1) (zi (vi d.2) (j4 (zh (.bool d.1) (zi (.bool d.1) (z8 (qx ?_)))))))));obtain rfl:=Option.some.inj b;refine qd (D:=[]) (J:=[]) (rs:=[.tmp 1]) (vs:=[(.bool d.1)]) e rfl rfl ⟨rfl,trivial⟩ ?_;exact⟨rfl,rfl⟩
theorem qd5:Enters prog 88:=enters_of func88 rfl (by kernel_rfl)
theorem zqe:FieldOk prog 121 0 0:=by
 obtain⟨i,hi,a⟩: ∃ i,prog.info? 33=some i∧i.size=1:=uz (by kernel_rfl);exact au underlying121 rfl rfl hi (by rw [a];rfl)
theorem q9l: ∀ w,(isAgg 33).run prog w= .ok false w:=fun w=>by kernel_rfl
theorem qbz: ∀ w,∃ z,(zeroValue 117).run prog w= .ok z w∧z.cells=([.slice none 0 0]:List Value).toArray:=fun w=>⟨vs0,by kernel_rfl,rfl⟩
theorem qcj: ∀ w,(sizeOf 117).run prog w= .ok 1 w:=fun w=>by kernel_rfl
theorem qco: ∀ w,∃ z,(zeroValue 148).run prog w= .ok z w∧z.cells=([.nilFunc]:List Value).toArray:=fun w=>⟨.nilFunc,by kernel_rfl,rfl⟩
theorem qb3: ∀ w,(sizeOf 148).run prog w= .ok 1 w:=fun w=>by kernel_rfl
theorem q81: ∀ w,(isAgg 148).run prog w= .ok false w:=fun w=>by kernel_rfl
theorem q2u: ∀ w,(isAgg 117).run prog w= .ok false w:=fun w=>by kernel_rfl
theorem q7o:Enters prog 101:=enters_of func101 rfl (by kernel_rfl)
theorem zax{N:Nat}(F:Nat): ∀ {R:RH} {s:Int} {a:Nat} {p0_:List Bool} {e:Value} {fO:Frag} (f:ORep pq R fO e p0_) {p1_:Mach} {d:Value} (k:PRep (jy false false) R d p1_) {b:Nat} {r:List Bool} (c:p9 N F s p0_ p1_=some r),CallG prog 101 #[(vi s),(.pointer (some ⟨a,0,none⟩)),d,(.pointer (some ⟨b,0,none⟩))] R [box a [e] 117,fO,box b [.func (.func 101) #[] #[(.pointer (some ⟨a,0,none⟩)),d,(.pointer (some ⟨b,0,none⟩))]] 148] (fun v R' O'=> ∃ l m,v= .tuple #[]∧O'=[box a [l] 117,m,box b [.func (.func 101) #[] #[(.pointer (some ⟨a,0,none⟩)),d,(.pointer (some ⟨b,0,none⟩))]] 148]∧ORep pq R' m l r):=by
  induction F with
  |zero=>intros;rename_i c;exact qo c
  |succ F ih=>
    intro R s a p0_ e fO f p1_ d k b r c
    refine z7t (args:=[(vi s),(.pointer (some ⟨a,0,none⟩)),d,(.pointer (some ⟨b,0,none⟩))]) func101 rfl rfl fun A=>?_
    rw [p9] at c
    refine zt ?_
    refine zt ?_
    refine zm ?_
    refine jq (v:=(vi s)) rfl (zf rfl) ?_
    refine jq rfl (yu rfl rfl) ?_
    refine jq (v:=(.bool (decide (s=(-1))))) rfl (zf rfl) ?_
    refine qz rfl rfl rfl rfl (fun o=>ql (v:=e) (qi (i:=0) q2u rfl rfl rfl)) fun v7 h8=>?_
    refine qz rfl rfl rfl rfl (fun o=>ql (v:=(vi s)) (zf rfl)) fun v9 G=>?_
    obtain⟨q,c⟩:=zb c
    refine qz rfl rfl rfl rfl (fun o=>z4r (i:=s.toNat) zbl (h8.1 (zn rfl o)) f (zg (G.1 (zn rfl o)) (q (zn rfl o)).1) (zy (q (zn rfl o)))) fun ae H=>?_
    refine qz rfl rfl rfl rfl (fun o=>ql (zqq (zay (i:=s.toNat) (j:=1) ty4 f rfl rfl (H.1 (zn rfl o)) (zy (q (zn rfl o)))))) fun af I=>?_
    refine jq rfl (r9 rfl rfl (fun hb=>(I.1 (zn rfl hb)))) ?_
    refine z8 ?_
    refine zu rfl c (fun c=>?_) (fun c=>?_)
    · refine qx ?_
      obtain rfl:=Option.some.inj c
      refine z5k (D:=[]) (J:=[]) (O':=[box a [e] 117,fO,box b [(.func (.func 101) #[] #[(.pointer (some ⟨a,0,none⟩)),d,(.pointer (some ⟨b,0,none⟩))])] 148]) (rs:=[]) (vs:=[]) (RH.le.refl _) ((pk 0 rfl (pk 0 rfl (pk 0 rfl (List.Perm.refl _))))) rfl trivial ?_
      exact⟨e,fO,rfl,rfl,f⟩
    · refine qa ?_
      refine zt ?_
      refine zm ?_
      refine zl (qi (i:=0) q2u rfl rfl rfl) ?_
      refine zh (vi s) ?_
      obtain⟨t,c⟩:=zb c
      refine ai (i:=s.toNat) rfl zbl rfl f (zg rfl t.1) (zy t) fun ah K=>?_
      refine z1y (i:=s.toNat) (j:=1) ty4 f rfl rfl K (zy t) rfl (z11.2 rfl) fun L M=>?_
      refine z8 ?_
      refine zt ?_
      refine zm ?_
      refine je rfl xc uy rfl k fun aj O=>?_
      refine qj rfl z3p rfl O fun ak P=>?_
      refine zh (vi s) ?_
      obtain⟨x,c⟩:=zb c
      refine kg (i:=s.toNat) rfl zaq rfl (ja P) (zg rfl x.1) (zy x) fun al Q=>?_
      refine qj rfl za8 rfl Q fun am y=>?_
      refine zl (qw rfl underlying58 rfl (ja y)) ?_
      refine zh (vi 0) ?_
      refine z8 ?_
      refine zx ?_
      refine jc (γ:=Nat×Int×(List Bool)×Value×Frag) (rs [6,7,24,33]) (fun g=>[(24,(vi g.2.1))]) (fun g=>[box b [(.func (.func 101) #[] #[(.pointer (some ⟨a,0,none⟩)),d,(.pointer (some ⟨b,0,none⟩))])] 148,box a [g.2.2.2.1] 117,g.2.2.2.2]++A) (fun g R=>ng N (p9 N F) s p1_ g.1 g.2.1 g.2.2.1=some r∧ORep pq R g.2.2.2.2 g.2.2.2.1 g.2.2.1∧True) (fun g=>g.1) (N,0,(up p0_ s true),e,L) ⟨[],(pk 2 rfl (pk 0 rfl (pk 0 rfl (List.Perm.refl _))))⟩ ⟨c,M,trivial⟩ ?_
      clear c
      rintro⟨p,h,S,u,w⟩ an ao n ⟨c,z,_⟩
      rcases p with _|p
      · exact qo c
      replace c:ng N (p9 N F) s p1_ (p+1) h S=some r:=c;rw [ng] at c
      refine zt ?_
      refine zm ?_
      refine zl (j6 rfl rfl) ?_
      refine z8 ?_
      refine zt ?_
      refine zu rfl c (fun c=>?_) (fun c=>?_)
      · refine qa ?_
        refine zt ?_
        refine zx ?_
        refine zt ?_
        refine zm ?_
        obtain⟨B,c⟩:=zb c
        refine kg (i:=h.toNat) rfl zb5 rfl (ja (y.mono n)) (zg rfl B.1) (zy B) fun ap T=>?_
        refine qj rfl zf1 rfl T fun aq U=>?_
        obtain rfl:=fq.1 U
        refine kv rfl zen fun C=>?_
        refine jr (i:=0) (vs:=[(vi ((ix (ix p1_.rows s) h).to)),(vi ((ix (ix p1_.rows s) h).out))]) zbf rfl rfl rfl rfl rfl rfl (qf rfl (qf rfl jv)) ?_
        refine z8 ?_
        refine zm ?_
        refine zl (qi (i:=1) q81 rfl rfl rfl) ?_
        refine zl (qg z0v rfl) ?_
        refine zl (qi (i:=0) ag3 rfl rfl rfl) ?_
        obtain⟨V,W,c⟩:=zo c
        refine ziq (Oc:=[box a [u] 117,w,box b [(.func (.func 101) #[] #[(.pointer (some ⟨a,0,none⟩)),d,(.pointer (some ⟨b,0,none⟩))])] 148]) (Or:=[box C [(vi ((ix (ix p1_.rows s) h).to)),(vi ((ix (ix p1_.rows s) h).out))] 57]++A) (cs:=[(.pointer (some ⟨a,0,none⟩)),d,(.pointer (some ⟨b,0,none⟩))]) (vs:=[(vi ((ix (ix p1_.rows s) h).to))]) rfl q7o rfl rfl ((pk 2 rfl (pk 2 rfl (pk 1 rfl (pk 0 rfl (List.Perm.refl _)))))) (ih z (k.mono n) W) fun ar au ac E X=>?_
        obtain⟨Y,Z,rfl,rfl,aa⟩:=X
        refine z8 ?_
        refine zm ?_
        obtain⟨ab,c⟩:=zb c
        refine zl (jg rfl rfl ab) ?_
        refine zh (vi (h+1)) ?_
        refine z8 ?_
        exact⟨dkt,E,jm,(p,h+1,V,Y,Z),Nat.lt_succ_self _,⟨rfl,trivial⟩,⟨[box C [(vi ((ix (ix p1_.rows s) h).to)),(vi ((ix (ix p1_.rows s) h).out))] 57],(pk 3 rfl (pk 2 rfl (pk 0 rfl (pk 0 rfl (List.Perm.refl _)))))⟩,c,aa,trivial⟩
      · refine jf ?_
        show zir _ _ _ _ _ .ret _ [] _ _
        obtain rfl:=Option.some.inj c
        refine z5k (D:=[]) (J:=[]) (O':=[box a [u] 117,w,box b [(.func (.func 101) #[] #[(.pointer (some ⟨a,0,none⟩)),d,(.pointer (some ⟨b,0,none⟩))])] 148]) (rs:=[]) (vs:=[]) n ((pk 1 rfl (pk 1 rfl (pk 0 rfl (List.Perm.refl _))))) rfl trivial ?_
        exact⟨u,w,rfl,rfl,z⟩
theorem zd2{N:Nat}{R:RH}{s:Int}{a:Nat}{p0_:List Bool}{d:Value}{fO:Frag}(g:ORep pq R fO d p0_){p1_:Mach}{c:Value}(h:PRep (jy false false) R c p1_){b:Nat}{r:List Bool}(i:p9 N N s p0_ p1_=some r):CallG prog 101 #[(vi s),(.pointer (some ⟨a,0,none⟩)),c,(.pointer (some ⟨b,0,none⟩))] R [box a [d] 117,fO,box b [.func (.func 101) #[] #[(.pointer (some ⟨a,0,none⟩)),c,(.pointer (some ⟨b,0,none⟩))]] 148] (fun v R' O'=> ∃ e f,v= .tuple #[]∧O'=[box a [e] 117,f,box b [.func (.func 101) #[] #[(.pointer (some ⟨a,0,none⟩)),c,(.pointer (some ⟨b,0,none⟩))]] 148]∧ORep pq R' f e r):=zax N g h i
theorem zg1{N:Nat}{R:RH}{s:(List Bool)}{c:Value}(h:VRep (tSl false pq) R c s){f:Bool}{r:Int}(b:z3s N s f=some r):CallP prog 108 #[c,(.bool f)] R (fun v R'=>v=(vi r)):=by
 refine qh (args:=[c,(.bool f)]) func108 rfl rfl fun A=>?_;rw [z3s] at b;refine zk (zi (vi 0) (z8 ?_));obtain⟨l,a,b⟩:=zo b;refine qp (γ:=Unit) (rs [4,19]) (fun g=>[]) (fun g=>[]++A) (fun g R=>l=Ex.go g∧True) ?_ ?_
 refine zk (zh c (zl (qw rfl underlying117 rfl (ja h)) (zh (vi 0) (z8 (zx (jc (γ:=Nat×Int) (rs [4,6,8,19]) (fun g=>[(8,(vi g.2))]) (fun g=>[]++A) (fun g R=>mr N s f g.1 g.2=some l∧True) (fun g=>g.1) (N,0) prm ⟨a,trivial⟩ ?_))))));clear a;rintro⟨k,d⟩ q x e ⟨a,_⟩;rcases k with _|k
 exact qo a;replace a:mr N s f (k+1) d=some l:=a;rw [mr] at a;refine zk (zl (j6 rfl rfl) (z8 (zt (zu rfl a (fun a=>?_) (fun a=>?_)))));refine qa (zt (zx (zk (zh (vi d) (zi (vi d) (j4 (zh (.bool f) (zh c (zh (vi d) ?_)))))))))
 obtain⟨j,a⟩:=zb a;refine kg (i:=d.toNat) rfl zbl rfl (ja (h.mono e)) (zg rfl j.1) (zy j) fun t m=>?_;refine qj rfl ty4 rfl m fun u n=>?_;obtain rfl:=z11.1 n;refine zl (q1l underlying4 rfl rfl) (z8 (zu rfl a (fun a=>?_) (fun a=>?_)))
 refine zk (zh (vi d) (zi (vi d) (z8 (qx ?_))));replace b:=z2q a b;obtain rfl:=Option.some.inj b;refine qd (D:=[]) (J:=[]) (rs:=[.tmp 4]) (vs:=[(vi d)]) e rfl rfl ⟨rfl,trivial⟩ ?_;exact⟨rfl,rfl⟩;refine qa (zm ?_);obtain⟨o,a⟩:=zb a
 refine zl (jg rfl rfl o) (zh (vi (d+1)) (z8 ?_));exact⟨dkt,(RH.le.refl _),jm,(k,d+1),Nat.lt_succ_self _,⟨rfl,trivial⟩,prm,a,trivial⟩;refine jf ?_;exact⟨dkt,e,jm,(),trivial,prm,(Option.some.inj a).symm,trivial⟩;rintro y w z p ⟨rfl,_⟩;replace b:=z4h b;refine zk (zi (vi (-1)) (z8 (qx ?_)))
 obtain rfl:=Option.some.inj b;refine qd (D:=[]) (J:=[]) (rs:=[.tmp 4]) (vs:=[(vi (-1))]) p rfl rfl ⟨rfl,trivial⟩ ?_;exact⟨rfl,rfl⟩
theorem qbn:Enters prog 108:=enters_of func108 rfl (by kernel_rfl)
theorem zd4{N:Nat}{R:RH}{s:(List Bool)}{a:Value}(d:VRep (tSl false pq) R a s){c:Bool}{r:Bool}(b:z1u N s c=some r):CallP prog 102 #[a,(.bool c)] R (fun v R'=>v=(.bool r)):=by
 refine qh (args:=[a,(.bool c)]) func102 rfl rfl fun A=>?_;rw [z1u] at b;refine zk (zi (.bool false) (j4 (zh a (zh (.bool c) ?_))));obtain⟨f,g,b⟩:=zo b;refine jh rfl qbn rfl (zg1 d g) fun i j e h=>?_;obtain rfl:=h
 refine zl (z2a rfl rfl) (zi (.bool (decide (0≤f))) (z8 (qx ?_)));obtain rfl:=Option.some.inj b;refine qd (D:=[]) (J:=[]) (rs:=[.tmp 4]) (vs:=[(.bool (decide (0≤f)))]) e rfl rfl ⟨rfl,trivial⟩ ?_;exact⟨rfl,rfl⟩
theorem qbh:Enters prog 102:=enters_of func102 rfl (by kernel_rfl)
theorem zf6{N:Nat}{R:RH}{m:Mach}{h:Value}(j:VRep (jy false false) R h m){r:Bool×Int}(a:z3e N m=some r):CallP prog 91 #[h] R (fun v R'=>v= .tuple #[(.bool r.1),(vi r.2)]):=by
 refine qh (args:=[h]) func91 rfl rfl fun A=>?_;rw [z3e] at a;refine zk (ug (T:=(jy false false)) rfl rfl rfl j fun o Z f O L=>?_);refine zi (.bool false) (zi (vi 0) (z8 (zt (zk (zl (u7 z2i rfl rfl O (j.mono f)) ?_)))));obtain⟨p,P,a⟩:=zo a
 refine jh rfl q5a rfl (z6l (j.mono f) P) fun v8 Q e S=>?_;obtain rfl:=S;refine zi (vi p) (j4 (zh (vi p) (zl (xm rfl rfl) (z8 (zu rfl a (fun a=>?_) (fun a=>?_))))));refine zk (zh (vi p) (zi (.bool false) (zi (vi p) (z8 (qx ?_)))));obtain rfl:=Option.some.inj a
 refine qd (D:=[]) (J:=[]) (rs:=[.tmp 2,.tmp 3]) (vs:=[(.bool false),(vi p)]) (f.trans e) rfl rfl ⟨rfl,rfl,trivial⟩ ?_;exact⟨rfl,rfl⟩;refine qa (zk (je rfl xc uy rfl (L.mono e) fun U w=>?_));refine qj rfl z3p rfl w fun V x=>?_;refine zl (qw rfl underlying28 rfl (ja x)) ?_
 obtain⟨g,a⟩:=zb a;refine z7y (T:=pq) (m:=(↑m.rows.length:Int).toNat) (c:=(↑m.rows.length:Int).toNat) rfl underlying117 zo4 (zg rfl g.1) (zg rfl g.1) (Nat.le_refl _) (zdv g) (zdy g) fun q y z k=>?_;refine kv rfl qbz fun b=>?_
 refine jr (i:=0) (vs:=[q]) qcj rfl rfl (lw k) rfl rfl rfl (qf (z0w k) jv) ?_;refine j4 (kv rfl qco fun d=>?_)
 refine j4 (zl (z1o (fs:=[]) (cs:=[(.pointer (some ⟨b,0,none⟩)),o,(.pointer (some ⟨d,0,none⟩))]) rfl rfl) (jr (i:=0) (vs:=[(.func (.func 101) #[] #[(.pointer (some ⟨b,0,none⟩)),o,(.pointer (some ⟨d,0,none⟩))])]) qb3 rfl rfl rfl rfl rfl rfl (qf rfl jv) ?_));refine j4 (zl (qi (i:=0) q81 rfl rfl rfl) ?_)
 obtain⟨B,C,a⟩:=zo a
 refine ziq (Oc:=[box b [q] 117,y,box d [(.func (.func 101) #[] #[(.pointer (some ⟨b,0,none⟩)),o,(.pointer (some ⟨d,0,none⟩))])] 148]) (Or:=[]++A) (cs:=[(.pointer (some ⟨b,0,none⟩)),o,(.pointer (some ⟨d,0,none⟩))]) (vs:=[(vi 0)]) rfl q7o rfl rfl ((pk 1 rfl (pk 1 rfl (pk 0 rfl (List.Perm.refl _))))) (zd2 k (L.mono e) C) fun W X M s E=>?_
 obtain⟨l,F,rfl,rfl,G⟩:=E;refine j4 (zl (qi (i:=0) q2u rfl rfl rfl) ?_);obtain⟨n,H,a⟩:=zo a;refine zdr (cs:=[]) (vs:=[l,(.bool false)]) (φ:=fun v=>v=(.bool n)) rfl qbh rfl rfl (fun I t u=>zd4 (z5v ((zgb 1 rfl G t u):VRep (yo pq) I l B)) H) fun Y K=>?_
 obtain rfl:=K;refine zl (z0r rfl) (zi (.bool (!n)) (zi (vi 0) (z8 (qx ?_))));obtain rfl:=Option.some.inj a
 refine qd (D:=[]) (J:=[box b [l] 117,F,box d [(.func (.func 101) #[] #[(.pointer (some ⟨b,0,none⟩)),o,(.pointer (some ⟨d,0,none⟩))])] 148]) (rs:=[.tmp 2,.tmp 3]) (vs:=[(.bool (!n)),(vi 0)]) ((f.trans e).trans s) rfl rfl ⟨rfl,rfl,trivial⟩ ?_;exact⟨rfl,rfl⟩
theorem qcu:Enters prog 91:=enters_of func91 rfl (by kernel_rfl)
theorem zg3{N:Nat}{R:RH}{p0_:Mach}{a:Value}(c:PRep (jy false false) R a p0_){r:Bool}(b:z3u N p0_=some r):CallP prog 90 #[a] R (fun v R'=>v=(.bool r)):=by
 refine qh (args:=[a]) func90 rfl rfl fun A=>?_;rw [z3u] at b;refine zk (zi (.bool false) (j4 (qj rfl z2i rfl c fun i f=>?_)));obtain⟨d,g,b⟩:=zo b;refine jh rfl qcu rfl (zf6 f g) fun j k e h=>?_;obtain rfl:=h
 refine zh (.tuple #[(.bool d.1),(vi d.2)]) (zl (jl rfl rfl) (zl (jl rfl rfl) (zi (.bool d.1) (zi (vi d.2) (j4 (zh (.bool d.1) (zi (.bool d.1) (z8 (qx ?_)))))))));obtain rfl:=Option.some.inj b;refine qd (D:=[]) (J:=[]) (rs:=[.tmp 1]) (vs:=[(.bool d.1)]) e rfl rfl ⟨rfl,trivial⟩ ?_;exact⟨rfl,rfl⟩
theorem qe7:Enters prog 90:=enters_of func90 rfl (by kernel_rfl)
theorem qa8: ∀ w,∃ z,(zeroValue 32).run prog w= .ok z w∧z.cells=([.slice none 0 0]:List Value).toArray:=fun w=>⟨vs0,by kernel_rfl,rfl⟩
theorem za3: ∀ w,∃ z,(zeroValue 3).run prog w= .ok z w∧z.cells=([.int .i64 0]:List Value).toArray:=fun w=>⟨(vi 0),by kernel_rfl,rfl⟩
theorem zvf: ∀ w,(sizeOf 32).run prog w= .ok 1 w:=fun w=>by kernel_rfl
theorem zjf{N:Nat}{R:RH}{m:Mach}{a:Value}(d:VRep (jy false false) R a m){r:Mach}(b:z8b N m=some r):CallP prog 103 #[a] R (fun v R'=> ∃ u0,v= .func (.func 109) #[] #[u0]∧PRep (jy false false) R' u0 r):=by
 refine qh (args:=[a]) func103 rfl rfl fun A=>?_;rw [z8b] at b;refine zk (ug (T:=(jy false false)) rfl rfl rfl d fun c g e h f=>?_);refine zi .nilFunc (j4 (zl (z1o (fs:=[]) (cs:=[c]) rfl rfl) (zi (.func (.func 109) #[] #[c]) (z8 (qx ?_)))));obtain rfl:=Option.some.inj b
 refine qd (D:=[]) (J:=[]) (rs:=[.tmp 2]) (vs:=[(.func (.func 109) #[] #[c])]) e rfl rfl ⟨rfl,trivial⟩ ?_;exact⟨rfl,⟨c,rfl,f⟩⟩
theorem qaz:Enters prog 103:=enters_of func103 rfl (by kernel_rfl)
theorem q7g: ∀ w,∃ z,(zeroValue 166).run prog w= .ok z w∧z.cells=((ym (lq 16 (List.replicate 16 (((0:Int),(0:Int)):(Int×Int)))))).toArray:=fun w=>⟨(.agg #[(vi 0),(vi 0),(vi 0),(vi 0),(vi 0),(vi 0),(vi 0),(vi 0),(vi 0),(vi 0),(vi 0),(vi 0),(vi 0),(vi 0),(vi 0),(vi 0),(vi 0),(vi 0),(vi 0),(vi 0),(vi 0),(vi 0),(vi 0),(vi 0),(vi 0),(vi 0),(vi 0),(vi 0),(vi 0),(vi 0),(vi 0),(vi 0)]),by kernel_rfl,by kernel_rfl⟩
theorem q7p:ArrOk prog 166 16 2:=zem (e:=158) underlying166 (fun w=>by kernel_rfl)
theorem qbx:ArrOk prog 158 2 1:=zem (e:=3) underlying158 (fun w=>by kernel_rfl)
theorem q7l: ∀ w,(isAgg 166).run prog w= .ok true w:=fun w=>by kernel_rfl
theorem q2i: ∀ w,(sizeOf 166).run prog w= .ok 32 w:=fun w=>by kernel_rfl
theorem zno{N:Nat}{R:RH}{m:Mach}{n:Value}(O:VRep (jy false false) R n m){p:(List Int)}{h:Value}(P:VRep (tSl false (qb .i64)) R h p){s:Int}{r:(Arr 16 (Int×Int))}(k:z8g N m p s=some r):CallP prog 113 #[n,h,(vi s)] R (fun v R'=>v=(z6k r)):=by
 refine qh (args:=[n,h,(vi s)]) func113 rfl rfl fun A=>?_;rw [z8g] at k;refine zk (ug (T:=(jy false false)) rfl rfl rfl O fun v1 R3 C h5 h2=>?_);refine kv rfl q7g fun M=>?_;refine j4 (kv rfl q7g fun B=>?_);refine z8 ?_;obtain⟨e,b,k⟩:=zo k
 refine qp (γ:=((Arr 16 (Int×Int)))) (rs [8,38]) (fun g=>[]) (fun g=>[box M (ym (lq 16 (List.replicate 16 (((0:Int),(0:Int)):(Int×Int))))) 166,box B (ym g) 166]++A) (fun g R=>e=g∧True) ?_ ?_;refine zk (je rfl xc uy rfl h2 fun ab Q=>?_);refine qj rfl z3p rfl Q fun ac S=>?_
 refine zh (vi s) ?_;obtain⟨E,b⟩:=zb b;refine kg (i:=s.toNat) rfl zaq rfl (ja S) (zg rfl E.1) (zy E) fun ad U=>?_;refine qj rfl za8 rfl U fun ae F=>?_
 refine zl (qw rfl underlying58 rfl (ja F)) (zh (vi 0) (z8 (zx (jc (γ:=Nat×Int×((Arr 16 (Int×Int)))) (rs [8,10,16,38]) (fun g=>[(16,(vi g.2.1))]) (fun g=>[box M (ym (lq 16 (List.replicate 16 (((0:Int),(0:Int)):(Int×Int))))) 166,box B (ym g.2.2) 166]++A) (fun g R=>ay N m p s g.1 g.2.1 g.2.2=some e∧True) (fun g=>g.1) (N,0,(lq 16 (List.replicate 16 (((0:Int),(0:Int)):(Int×Int))))) ⟨[],(pk 1 rfl (pk 0 rfl (List.Perm.refl _)))⟩ ⟨b,trivial⟩ ?_))))
 clear b;rintro⟨l,a,d⟩ af ag f ⟨b,_⟩;rcases l with _|l;exact qo b;replace b:ay N m p s (l+1) a d=some e:=b;rw [ay] at b;refine zk (zl (j6 rfl rfl) (z8 (zt (zu rfl b (fun b=>?_) (fun b=>?_)))));refine qa ?_;obtain⟨t,c,b⟩:=zo b
 refine qp (γ:=((Arr 16 (Int×Int)))) (rs [8,10,18,37]) (fun g=>[]) (fun g=>[box M (ym (lq 16 (List.replicate 16 (((0:Int),(0:Int)):(Int×Int))))) 166,box B (ym g) 166]++A) (fun g R=>t=g∧True) ?_ ?_;refine zx (zk (zh (vi a) ?_));obtain⟨G,c⟩:=zb c
 refine kg (i:=a.toNat) rfl zb5 rfl (ja (F.mono f)) (zg rfl G.1) (zy G) fun ah V=>?_;refine qj rfl zf1 rfl V fun ai W=>?_;obtain rfl:=fq.1 W;refine kv rfl zen fun u=>?_
 refine zi (vi a) (jr (i:=0) (vs:=[(vi ((ix (ix m.rows s) a).to)),(vi ((ix (ix m.rows s) a).out))]) zbf rfl rfl rfl rfl rfl rfl (qf rfl (qf rfl jv)) ?_)
 refine j4 (zh (vi a) (zl (qg z5n rfl) (zl (qi (i:=0) ag3 rfl rfl rfl) (zl (bg (ps:=[(0,(vi ((ix (ix m.rows s) a).out))),(1,(vi (-1)))]) (v:=(.agg #[(vi ((ix (ix m.rows s) a).out)),(vi (-1))])) rfl (fun w=>by kernel_rfl)) ?_))));obtain⟨x,c⟩:=zb c
 refine zl (z1s (i:=a.toNat) q7p rfl (zg rfl x.1) (Nat.lt_of_lt_of_eq (zy x) d.2)) (z98 (sz:=2) (cl:=z1n) (z:=(((ix (ix m.rows s) a).out,(-1)):(Int×Int))) (vs:=[(vi ((ix (ix m.rows s) a).out)),(vi (-1))]) (q:=a) (i:=a.toNat) (o:=0) (j:=2) (X:=d) co_A2tInti64.len q1i rfl rfl (by omega) rfl (Nat.lt_of_lt_of_eq (zy x) d.2) rfl rfl rfl (qf rfl (qf rfl jv)) rfl rfl ?_)
 refine j4 (zl (qg z0v rfl) (zl (qi (i:=0) ag3 rfl rfl rfl) (zl (xm rfl rfl) (z8 (zu rfl c (fun c=>?_) (fun c=>?_))))));refine z4j 8 mixed (by kernel_rfl) (by kernel_rfl) ?_;refine uw (v:=(vi a)) (zf rfl) ?_;refine uw (v:=h) (zf rfl) ?_
 refine uw (v:=(.pointer (some ⟨u,0,none⟩))) (qg z0v rfl) ?_;refine uw (v:=(vi ((ix (ix m.rows s) a).to))) (qi (i:=0) ag3 rfl rfl rfl) ?_;obtain⟨H,c⟩:=zb c;refine z3n (mh (i:=((ix (ix m.rows s) a).to).toNat) ic rfl (ja (P.mono (C.trans f))) (zg rfl H.1) (zy H)) fun aj Y=>?_
 refine uw (nz (kw ty3 rfl Y)) ?_;obtain⟨y,c⟩:=zb c;refine uw (v:=(.pointer (some ⟨B,0+a.toNat*2,none⟩))) (z1s (i:=a.toNat) q7p rfl (zg rfl y.1) (Nat.lt_of_lt_of_eq (zy y) (z0g d a (((ix (ix m.rows s) a).out,(-1)):(Int×Int))).2)) ?_
 refine uw (v:=(.pointer (some ⟨B,0+a.toNat*2+1*1,none⟩))) (z1s (i:=1) qbx rfl rfl (by decide)) ?_;intro ak I
 refine z98 (sz:=2) (cl:=z1n) (z:=(((ix (z0g d a (((ix (ix m.rows s) a).out,(-1)):(Int×Int))).1 a).1,(ix p ((ix (ix m.rows s) a).to))):(Int×Int))) (vs:=[(vi (ix p ((ix (ix m.rows s) a).to)))]) (q:=a) (i:=a.toNat) (o:=1) (j:=2) (X:=(z0g d a (((ix (ix m.rows s) a).out,(-1)):(Int×Int)))) co_A2tInti64.len sz3 rfl rfl (by omega) rfl (Nat.lt_of_lt_of_eq (zy y) (z0g d a (((ix (ix m.rows s) a).out,(-1)):(Int×Int))).2) rfl rfl rfl (qf rfl jv) rfl rfl ?_
 refine z8 ?_
 exact⟨dkt,I,jm,(z0g (z0g d a (((ix (ix m.rows s) a).out,(-1)):(Int×Int))) a (((ix (z0g d a (((ix (ix m.rows s) a).out,(-1)):(Int×Int))).1 a).1,(ix p ((ix (ix m.rows s) a).to))):(Int×Int))),trivial,⟨[box u [(vi ((ix (ix m.rows s) a).to)),(vi ((ix (ix m.rows s) a).out))] 57],(List.Perm.refl _)⟩,(Option.some.inj c).symm,trivial⟩
 refine qa ?_;exact⟨dkt,(RH.le.refl _),jm,(z0g d a (((ix (ix m.rows s) a).out,(-1)):(Int×Int))),trivial,⟨[box u [(vi ((ix (ix m.rows s) a).to)),(vi ((ix (ix m.rows s) a).out))] 57],(List.Perm.refl _)⟩,(Option.some.inj c).symm,trivial⟩;rintro t al am K ⟨rfl,_⟩;refine zm ?_;obtain⟨Z,b⟩:=zb b
 refine zl (jg rfl rfl Z) (zh (vi (a+1)) (z8 ?_));exact⟨dkt,K,jm,(l,a+1,t),Nat.lt_succ_self _,⟨rfl,trivial⟩,prm,b,trivial⟩;refine jf ?_;exact⟨dkt,f,jm,d,trivial,prm,(Option.some.inj b).symm,trivial⟩;rintro e an ao L ⟨rfl,_⟩
 refine zk (zl (iw (j:=1) (v:=(z6k e)) q7l q2i rfl rfl (co_A16A2tInti64.len _) rfl) (z0q (j:=0) (cs:=(ym (lq 16 (List.replicate 16 (((0:Int),(0:Int)):(Int×Int)))))) (cs':=(ym e)) q2i rfl rfl (co_A16A2tInti64.len _) (co_A16A2tInti64.len _) rfl rfl (z2v (zdu _)) ?_));refine z8 (qx ?_)
 obtain rfl:=Option.some.inj k;refine qd (D:=[]) (J:=[box M (ym e) 166,box B (ym e) 166]) (rs:=[.cell 6 166]) (vs:=[(z6k e)]) (C.trans L) rfl rfl ⟨⟨_,rfl,fun w hh=>z95 (i:=0) hh rfl q7l q2i (co_A16A2tInti64.len _)⟩,trivial⟩ ?_;exact⟨rfl,rfl⟩
theorem qac:Enters prog 113:=enters_of func113 rfl (by kernel_rfl)
theorem q7u: ∀ w,∃ z,(zeroValue 169).run prog w= .ok z w∧z.cells=((mf (⟨(0:Int),(lq 16 (List.replicate 16 (((0:Int),(0:Int)):(Int×Int))))⟩:Sd))).toArray:=fun w=>⟨(.agg #[(vi 0),(vi 0),(vi 0),(vi 0),(vi 0),(vi 0),(vi 0),(vi 0),(vi 0),(vi 0),(vi 0),(vi 0),(vi 0),(vi 0),(vi 0),(vi 0),(vi 0),(vi 0),(vi 0),(vi 0),(vi 0),(vi 0),(vi 0),(vi 0),(vi 0),(vi 0),(vi 0),(vi 0),(vi 0),(vi 0),(vi 0),(vi 0),(vi 0)]),by kernel_rfl,by kernel_rfl⟩
theorem zxl: ∀ w,(sizeOf 169).run prog w= .ok 33 w:=fun w=>by kernel_rfl
theorem q28: ∀ w,(isAgg 169).run prog w= .ok true w:=fun w=>by kernel_rfl
theorem mz3: ∀ w,(zeroValue 3).run prog w= .ok ((Value.int .i64) (0:Int)) w:=fun w=>by kernel_rfl
theorem kt3:KTy prog 3 1 1 false (fun cs=> ∃ x,cs=[.int .i64 x]):=zx5 underlying3 (by kernel_rfl)
theorem qcr:KTy prog 158 2 (2*1) true (znq 2 (fun cs=> ∃ x,cs=[.int .i64 x])):=zr0 underlying158 (by kernel_rfl) kt3
theorem q97(x:(Int×Int)):znq 2 (fun cs=> ∃ x,cs=[.int .i64 x]) (z1n x):=⟨[[(vi x.1)],[(vi x.2)]],rfl,by
      intro c a
      simp only [List.mem_cons,List.not_mem_nil,or_false] at a
      rcases a with rfl|rfl
      · exact⟨x.1,rfl⟩
      · exact⟨x.2,rfl⟩,rfl⟩
theorem kt166:KTy prog 166 3 (16*2) true (znq 16 (znq 2 (fun cs=> ∃ x,cs=[.int .i64 x]))):=zr0 underlying166 (by kernel_rfl) qcr
theorem q9c(x:Sd):(fun cs=> ∃ a b,(fun cs=> ∃ x,cs=[.int .i64 x]) a∧(fun cs=> ∃ a b,(znq 16 (znq 2 (fun cs=> ∃ x,cs=[.int .i64 x]))) a∧(fun cs=>cs=[]) b∧cs=a++b) b∧cs=a++b) (mf x):=⟨_,_,⟨x.fT,rfl⟩,⟨_,_,(zy5 (fun x=>(q97 x)) x.fQ),rfl,(List.append_nil _).symm⟩,rfl⟩
theorem qbm:KTy prog 169 4 33 true (fun cs=> ∃ a b,(fun cs=> ∃ x,cs=[.int .i64 x]) a∧(fun cs=> ∃ a b,(znq 16 (znq 2 (fun cs=> ∃ x,cs=[.int .i64 x]))) a∧(fun cs=>cs=[]) b∧cs=a++b) b∧cs=a++b):=zuu underlying169 (by kernel_rfl) (by kernel_rfl) (.cons (by decide) rfl (kt3.mono (by decide)) (.cons (by decide) rfl (kt166.mono (by decide)) .nil)) (by
  rintro cs ⟨e,f,c,⟨g,h,d,rfl,rfl⟩,rfl⟩
  simp only [List.length_append,List.length_nil,kt3.len _ c,kt166.len _ d])
theorem q1w:KOk prog 169 z0n:=q4k qbm (by decide) (by rw [underlying169]) (fun _=>rfl) (fun x=>(q9c x)) zkn zdz
theorem zhw{N:Nat}{R:RH}{m:Mach}{G:Value}(H:VRep (jy false false) R G m){p:(List Int)}{o:Value}(y:VRep (tSl false (qb .i64)) R o p){r:(List Int)}(q:z5j N m p=some r):CallP prog 110 #[G,o] R (fun v R'=>VRep (tSl true (qb .i64)) R' v r):=by
 refine qh (args:=[G,o]) func110 rfl rfl fun A=>?_;rw [z5j] at q;refine zk (ug (T:=(jy false false)) rfl rfl rfl H fun v1 R3 n h5 h2=>?_);refine zi vs0 (j4 (zn6 (ke:=z0n) (ve:=(Value.int .i64)) rfl fun I f7 h8=>?_))
 refine zi I (j4 (zh o (zl (qw rfl underlying32 rfl (ja (y.mono n))) ?_)));obtain⟨z,q⟩:=zb q;refine z7y (T:=(qb .i64)) (m:=(↑p.length:Int).toNat) (c:=(↑p.length:Int).toNat) rfl underlying32 zo3 (zg rfl z.1) (zg rfl z.1) (Nat.le_refl _) (zdv z) (zdy z) fun f Z K aa=>?_;refine zi f (z8 ?_)
 obtain⟨s,b,q⟩:=zo q;refine qp (γ:=(List Int)×Frag) (rs [7,12,16,48]) (fun g=>[]) (fun g=>[g.2]++A) (fun g R=>s=g.1∧ORep (qb .i64) R g.2 f g.1∧capOf f=g.1.length∧True) ?_ ?_
 refine zk (zh o (zl (qw rfl underlying32 rfl (ja (y.mono n))) (zh (vi 0) (z8 (zx (jc (γ:=Nat×Int×(List (Sd×Int))×(List Int)×Frag×Frag) (rs [7,12,18,48]) (fun g=>[(18,(vi g.2.1))]) (fun g=>[g.2.2.2.2.1,g.2.2.2.2.2]++A) (fun g R=>ak N m p g.1 g.2.1 g.2.2.1 g.2.2.2.1=some s∧MRep z0n (Value.int .i64) R g.2.2.2.2.1 I g.2.2.1∧ORep (qb .i64) R g.2.2.2.2.2 f g.2.2.2.1∧capOf f=g.2.2.2.1.length∧True) (fun g=>g.1) (N,0,[],(mk (↑p.length:Int) (0:Int)),f7,Z) ⟨[],(pk 1 rfl (pk 0 rfl (List.Perm.refl _)))⟩ ⟨b,h8,aa,(K.trans List.length_replicate.symm),trivial⟩ ?_))))))
 clear b;rintro⟨B,a,h,L,P,Q⟩ ax ay l ⟨b,C,M,F,_⟩;rcases B with _|B;exact qo b;replace b:ak N m p (B+1) a h L=some s:=b;rw [ak] at b;refine zk (zl (j6 rfl rfl) (z8 (zt (zu rfl b (fun b=>?_) (fun b=>?_)))))
 refine qa (zt (zx (zk (zh (vi a) ?_))));obtain⟨S,b⟩:=zb b;refine kg (i:=a.toNat) rfl ic rfl (ja (y.mono (n.trans l))) (zg rfl S.1) (zy S) fun az ab=>?_;refine qj rfl ty3 rfl ab fun aA ac=>?_;obtain rfl:=j5.1 ac
 refine zi (vi a) (zi (vi (ix p a)) (j4 (zh (vi (ix p a)) (zl (u7 z2i rfl rfl (h5.mono l) (H.mono (n.trans l))) (zh o (zh (vi a) ?_))))));obtain⟨d,ad,b⟩:=zo b;refine jh rfl qac rfl (zno (H.mono (n.trans l)) (y.mono (n.trans l)) ad) fun aB aC e ae=>?_
 obtain rfl:=ae
 refine zl (zwu (ps:=[(0,(vi (ix p a))),(1,(z6k d))]) (pls:= #[(0,1),(1,32)]) (out:=(mf (⟨(ix p a),d⟩:Sd))) (k:=33) (v:=(z0n (⟨(ix p a),d⟩:Sd))) rfl underlying169 (q5k (co_Srefines_key.len _) q7u) (fun w=>by kernel_rfl) (.cons rfl rfl (.last rfl (by simp only [co_A16A2tInti64.len];rfl))) (co_Srefines_key.len _) rfl) (kv rfl q7u fun U=>?_)
 refine z0q (j:=0) (cs:=(mf (⟨(0:Int),(lq 16 (List.replicate 16 (((0:Int),(0:Int)):(Int×Int))))⟩:Sd))) (cs':=(mf (⟨(ix p a),d⟩:Sd))) zxl rfl rfl (co_Srefines_key.len _) (co_Srefines_key.len _) rfl rfl (z2v (zdz _)) ?_;refine z8 ?_;obtain⟨E,t,b⟩:=zo b
 refine qp (γ:=(List (Sd×Int))×Frag) (rs [10,12,29,41]) (fun g=>[]) (fun g=>[g.2,Q,box U (mf (⟨(ix p a),d⟩:Sd)) 169]++A) (fun g R=>E=g.1∧MRep z0n (Value.int .i64) R g.2 I g.1∧True) ?_ ?_
 refine zk (zh I (zl (iw (j:=0) (v:=(z0n (⟨(ix p a),d⟩:Sd))) q28 zxl rfl rfl (co_Srefines_key.len _) rfl) (zl (zsm (k:=(⟨(ix p a),d⟩:Sd)) underlying164 q1w mz3 (zky (i:=1) rfl (C.mono e)) rfl rfl) (zh (.tuple #[(vi (z7i (0:Int) h (⟨(ix p a),d⟩:Sd))),(.bool (z8d h (⟨(ix p a),d⟩:Sd)))]) (zl (jl rfl rfl) (zl (jl rfl rfl) (zi (vi (z7i (0:Int) h (⟨(ix p a),d⟩:Sd))) (zi (.bool (z8d h (⟨(ix p a),d⟩:Sd))) (j4 (zh (.bool (z8d h (⟨(ix p a),d⟩:Sd))) (zl (z0r rfl) (z8 (zu rfl t (fun t=>?_) (fun t=>?_))))))))))))))
 refine zm (zh I (zl (iw (j:=0) (v:=(z0n (⟨(ix p a),d⟩:Sd))) q28 zxl rfl rfl (co_Srefines_key.len _) rfl) (zh I (zl (q1t rfl underlying164 rfl (zky (i:=1) rfl (C.mono e))) (zhe (i:=1) (k:=(⟨(ix p a),d⟩:Sd)) (u:=(↑h.length:Int)) underlying164 q1w rfl (C.mono e) rfl rfl rfl fun af ag=>?_)))))
 refine z8 ?_;exact⟨dkt,(RH.le.refl _),jm,((z8z h (⟨(ix p a),d⟩:Sd) (↑h.length:Int)),af),trivial,⟨[],(pk 1 rfl (pk 1 rfl (pk 0 rfl (List.Perm.refl _))))⟩,(Option.some.inj t).symm,ag,trivial⟩;refine qa ?_
 exact⟨dkt,(RH.le.refl _),jm,(h,P),trivial,⟨[],(pk 1 rfl (pk 1 rfl (pk 0 rfl (List.Perm.refl _))))⟩,(Option.some.inj t).symm,(C.mono e),trivial⟩;rintro⟨E,ah⟩ aD aE x ⟨rfl,V,_⟩
 refine zm (zh f (zh (vi a) (zh I (zl (iw (j:=2) (v:=(z0n (⟨(ix p a),d⟩:Sd))) q28 zxl rfl rfl (co_Srefines_key.len _) rfl) (zl (zmd (k:=(⟨(ix p a),d⟩:Sd)) underlying164 q1w mz3 (zky (i:=0) rfl V) rfl rfl) ?_)))));obtain⟨O,b⟩:=zb b
 refine ai (i:=a.toNat) rfl ic rfl (M.mono (e.trans x)) (zg rfl O.1) (zy O) fun aF aj=>?_;refine z1y (i:=a.toNat) (j:=1) ty3 (M.mono (e.trans x)) rfl rfl aj (zy O) rfl (j5.2 rfl) fun al am=>?_;refine z8 (zm ?_);obtain⟨an,b⟩:=zb b
 refine zl (jg rfl rfl an) (zh (vi (a+1)) (z8 ?_))
 exact⟨dkt,(e.trans x),jm,(B,a+1,E,(up L a (z7i (0:Int) E (⟨(ix p a),d⟩:Sd))),ah,al),Nat.lt_succ_self _,⟨rfl,trivial⟩,⟨[box U (mf (⟨(ix p a),d⟩:Sd)) 169],(pk 2 rfl (pk 0 rfl (pk 0 rfl (List.Perm.refl _))))⟩,b,V,am,(F.trans List.length_set.symm),trivial⟩;refine jf ?_
 exact⟨dkt,l,jm,(L,Q),trivial,⟨[P],(List.Perm.refl _)⟩,(Option.some.inj b).symm,M,F,trivial⟩;rintro⟨s,aG⟩ aH aI W ⟨rfl,ao,X,_⟩;refine zk (zh f (zi f (z8 (il (i:=0) rfl ao fun ap Y aq=>?_))));have ar:VRep (tSl true (qb .i64)) ap f s:=(z3o aq X);refine qx ?_;obtain rfl:=Option.some.inj q
 refine qd (D:=[]) (J:=[]) (rs:=[.tmp 4]) (vs:=[f]) ((n.trans W).trans Y) rfl rfl ⟨rfl,trivial⟩ ?_;exact⟨rfl,ar⟩
theorem qbb:Enters prog 110:=enters_of func110 rfl (by kernel_rfl)
theorem zh3{N:Nat}{R:RH}{s1_:(List Int)}{b:Value}(e:VRep (tSl false (qb .i64)) R b s1_){s2_:(List Int)}{d:Value}(f:VRep (tSl false (qb .i64)) R d s2_){r:Bool}(c:slices_Equal_int N s1_ s2_=some r):CallP prog 111 #[b,d] R (fun v R'=>v=(.bool r)):=by
 refine qh (args:=[b,d]) func111 rfl rfl fun A=>?_;rw [slices_Equal_int] at c;refine zk (zi (.bool false) (z8 (zt (zk (zh b (zl (qw rfl underlying32 rfl (ja e)) (zh d (zl (qw rfl underlying32 rfl (ja f)) (zl (xm rfl rfl) (z8 (zu rfl c (fun c=>?_) (fun c=>?_))))))))))))
 refine zk (zi (.bool false) (z8 (qx ?_)));obtain rfl:=Option.some.inj c;refine qd (D:=[]) (J:=[]) (rs:=[.tmp 4]) (vs:=[(.bool false)]) (RH.le.refl _) rfl rfl ⟨rfl,trivial⟩ ?_;exact⟨rfl,rfl⟩;refine qa ?_;obtain⟨o,a,c⟩:=zo c;refine qp (γ:=Unit) (rs [4,6,11,26]) (fun g=>[]) (fun g=>[]++A) (fun g R=>o=Ex.go g∧True) ?_ ?_
 refine zk (zh b (zl (qw rfl underlying32 rfl (ja e)) (zh (vi 0) (z8 (zx (jc (γ:=Nat×Int) (rs [4,6,13,26]) (fun g=>[(13,(vi g.2))]) (fun g=>[]++A) (fun g R=>oz N s1_ s2_ g.1 g.2=some o∧True) (fun g=>g.1) (N,0) prm ⟨a,trivial⟩ ?_))))));clear a;rintro⟨n,h⟩ u B j ⟨a,_⟩
 rcases n with _|n;exact qo a;replace a:oz N s1_ s2_ (n+1) h=some o:=a;rw [oz] at a;refine zk (zl (j6 rfl rfl) (z8 (zt (zu rfl a (fun a=>?_) (fun a=>?_)))))
 refine qa (zt (zx (zk (zh (vi h) (zi (vi h) (z8 (zt (z4j 9 mixed (by kernel_rfl) (by kernel_rfl) ?_))))))));refine uw (v:=b) (zf rfl) ?_;refine uw (v:=(vi h)) (zf rfl) ?_;obtain⟨l,a⟩:=zb a
 refine z3n (mh (i:=h.toNat) ic rfl (ja (e.mono j)) (zg rfl l.1) (zy l)) fun w p=>?_;refine uw (nz (kw ty3 rfl p)) ?_;refine uw (v:=d) (zf rfl) ?_;refine uw (v:=(vi h)) (zf rfl) ?_;obtain⟨m,a⟩:=zb a
 refine z3n (mh (i:=h.toNat) ic rfl (ja (f.mono j)) (zg rfl m.1) (zy m)) fun x q=>?_;refine uw (nz (kw ty3 rfl q)) ?_;refine uw (xm rfl rfl) ?_;intro y k;refine z8 (zu rfl a (fun a=>?_) (fun a=>?_));refine zk (zi (.bool false) (z8 (qx ?_)));replace c:=z2q a c
 obtain rfl:=Option.some.inj c;refine qd (D:=[]) (J:=[]) (rs:=[.tmp 4]) (vs:=[(.bool false)]) (j.trans k) rfl rfl ⟨rfl,trivial⟩ ?_;exact⟨rfl,rfl⟩;refine qa (zm ?_);obtain⟨s,a⟩:=zb a;refine zl (jg rfl rfl s) (zh (vi (h+1)) (z8 ?_));exact⟨dkt,k,jm,(n,h+1),Nat.lt_succ_self _,⟨rfl,trivial⟩,prm,a,trivial⟩
 refine jf ?_;exact⟨dkt,j,jm,(),trivial,prm,(Option.some.inj a).symm,trivial⟩;rintro C z E t ⟨rfl,_⟩;replace c:=z4h c;refine zk (zi (.bool true) (z8 (qx ?_)));obtain rfl:=Option.some.inj c;refine qd (D:=[]) (J:=[]) (rs:=[.tmp 4]) (vs:=[(.bool true)]) t rfl rfl ⟨rfl,trivial⟩ ?_;exact⟨rfl,rfl⟩
theorem qai:Enters prog 111:=enters_of func111 rfl (by kernel_rfl)
theorem zgx{N:Nat}{R:RH}{p0_:Mach}{h:Value}(l:PRep (jy false false) R h p0_):zy1 prog 109 [h] R (fun(x:(List Int)) vs R=> ∃ u0,vs=[u0]∧VRep (tSl false (qb .i64)) R u0 x) (fun σ B s=>z6i N p0_ σ B s):=by
 intro yv σ B I R1 O s0 Y r t Z a hy;refine z7t (args:=[yv,h]) func109 rfl rfl fun A=>?_;dsimp only at a;rw [z6i] at a;refine zk (je rfl xc uy rfl (l.mono r) fun v1 h2=>?_);refine qj rfl z3p rfl h2 fun v3 h4=>?_;refine zl (qw rfl underlying28 rfl (ja h4)) ?_;obtain⟨H,a⟩:=zb a
 refine z7y (T:=(qb .i64)) (m:=(↑p0_.rows.length:Int).toNat) (c:=(↑p0_.rows.length:Int).toNat) rfl underlying32 zo3 (zg rfl H.1) (zg rfl H.1) (Nat.le_refl _) (zdv H) (zdy H) fun K f6 y h8=>?_;refine zi K (z8 (zx (il (i:=0) rfl h8 fun L d M=>?_)))
 have P:VRep (tSl true (qb .i64)) L K (mk (↑p0_.rows.length:Int) (0:Int)):=(z3o M (y.trans List.length_replicate.symm))
 refine jc (γ:=Nat×σ×((List Int))×(List Frag)×Value) (rs [3,5,9,19]) (fun g=>[(3,g.2.2.2.2)]) (fun g=>[]++(g.2.2.2.1++A)) (fun g R=>z00 N σ B p0_ g.1 g.2.1 g.2.2.1=some Y∧I g.2.1 R g.2.2.2.1∧VRep (tSl true (qb .i64)) R g.2.2.2.2 g.2.2.1∧True) (fun g=>g.1) (N,s0,(mk (↑p0_.rows.length:Int) (0:Int)),O,K) prm ⟨a,(t _ _ _ _ d Z),P,trivial⟩ ?_
 clear a;rintro⟨q,z,C,E,k⟩ ae af j ⟨a,F,u,_⟩;rcases q with _|q;exact qo a;replace a:z00 N σ B p0_ (q+1) z C=some Y:=a;rw [z00] at a;refine zt (zk (zh yv (zh k ?_)));obtain⟨w,Q,a⟩:=zo a
 refine zjr (vs:=[k]) (J:=[]) (Oc:=E) (A:=A) rfl rfl rfl rfl (hy C z w.1 w.2 _ _ [k] (d.trans j) ⟨k,rfl,(Sub.v (B:=(tSl false (qb .i64))) (uh Sub.refl (fun _=>rfl)) u)⟩ F Q) fun ag n b o=>?_;refine z8 (zu rfl a (fun a=>?_) (fun a=>?_))
 refine qa (zx (zk (qj rfl z2i rfl (l.mono (((r.trans d).trans j).trans b)) fun ah S=>?_)));refine zh k ?_;obtain⟨U,V,a⟩:=zo a;refine jh rfl qbb rfl (zhw S (Sub.v (B:=(tSl false (qb .i64))) (uh Sub.refl (fun _=>rfl)) (u.mono b)) V) fun p ai e G=>?_
 refine zi p (z8 (zt (zk (zh k (zh p ?_)))));obtain⟨aj,W,a⟩:=zo a;refine jh rfl qai rfl (zh3 (Sub.v (B:=(tSl false (qb .i64))) (uh Sub.refl (fun _=>rfl)) (u.mono (b.trans e))) (Sub.v (B:=(tSl false (qb .i64))) (uh Sub.refl (fun _=>rfl)) G) W) fun ak al f X=>?_;obtain rfl:=X
 refine z8 (zu rfl a (fun a=>?_) (fun a=>?_));refine qx ?_;obtain rfl:=Option.some.inj a;refine z5k (D:=[]) (J:=[]) (O':=n) (rs:=[]) (vs:=[]) ((((d.trans j).trans b).trans e).trans f) (List.Perm.refl _) rfl trivial ?_;exact(t _ _ _ _ (e.trans f) o);refine qa (zm (zh p (zi p (z8 ?_))))
 exact⟨dkt,((b.trans e).trans f),jm,(q,w.2,U,n,p),Nat.lt_succ_self _,⟨rfl,trivial⟩,prm,a,(t _ _ _ _ (e.trans f) o),(G.mono f),trivial⟩;refine jf ?_;show zir _ _ _ _ _ .ret _ [] _ _;obtain rfl:=Option.some.inj a
 refine z5k (D:=[]) (J:=[]) (O':=n) (rs:=[]) (vs:=[]) ((d.trans j).trans b) (List.Perm.refl _) rfl trivial ?_;exact o
theorem qbq:Enters prog 109:=enters_of func109 rfl (by kernel_rfl)
theorem zcj: ∀ w,(isAgg 32).run prog w= .ok false w:=fun w=>by kernel_rfl
theorem zic{N:Nat}{R:RH}{m:Mach}{F:Value}(o:VRep (jy false false) R F m){r:(List Int)×Int×Int}(a:z5h N m=some r):CallP prog 93 #[F] R (fun v R'=> ∃ u0,v= .tuple #[u0,(vi r.2.1),(vi r.2.2)]∧VRep (tSl false (qb .i64)) R' u0 r.1):=by
 refine qh (args:=[F]) func93 rfl rfl fun A=>?_;rw [z5h] at a;refine zk (ug (T:=(jy false false)) rfl rfl rfl o fun v1 R3 k h5 h2=>?_);refine kv rfl qa8 fun t=>?_;refine kv rfl za3 fun u=>?_;refine zi (vi 0) (z8 (zt (zk (zl (u7 z2i rfl rfl h5 (o.mono k)) ?_))))
 obtain⟨p,X,a⟩:=zo a;refine jh rfl q5a rfl (z6l (o.mono k) X) fun ar au d Y=>?_;obtain rfl:=Y;refine zi (vi p) (j4 (zh (vi p) (zl (xm rfl rfl) (z8 (zu rfl a (fun a=>?_) (fun a=>?_))))))
 refine zk (zh (vi p) (jr (i:=1) (vs:=[vs0]) zvf rfl rfl rfl rfl rfl rfl (qf rfl jv) ?_));refine jr (i:=0) (vs:=[(vi 0)]) sz3 rfl rfl rfl rfl rfl rfl (qf rfl jv) ?_;refine zi (vi p) (z8 (qx ?_));obtain rfl:=Option.some.inj a
 refine qd (D:=[]) (J:=[box u [(vi 0)] 3,box t [vs0] 32]) (rs:=[.cell 2 32,.cell 3 3,.tmp 4]) (vs:=[vs0,(vi 0),(vi p)]) (k.trans d) rfl rfl ⟨⟨_,rfl,fun w G=>zfh (i:=1) G rfl rfl zcj  ⟩,⟨_,rfl,fun w G=>zfh (i:=0) G rfl rfl ag3  ⟩,rfl,trivial⟩ ?_;exact⟨rfl,⟨vs0,rfl,z5w⟩⟩
 refine qa (zk (jr (i:=0) (vs:=[(vi (-1))]) sz3 rfl rfl rfl rfl rfl rfl (qf rfl jv) ?_));refine z8 (zt (zk (zl (u7 z2i rfl rfl (h5.mono d) (o.mono (k.trans d))) ?_)));obtain⟨av,Z,a⟩:=zo a;refine jh rfl qaz rfl (zjf (o.mono (k.trans d)) Z) fun aw ax M aa=>?_
 obtain⟨ay,rfl,ab⟩:=aa;refine z8 (zx ?_);obtain⟨g,ac,a⟩:=zo a
 refine zn1 (Oc:=[box u [(vi (-1))] 3,box t [vs0] 32]) (Or:=A) _ (fun(s:(List Int)×Int) R O=> ∃ (n:Value),(∃ J,O.Perm (J++[box t [n] 32,box u [(vi s.2)] 3]))∧VRep (tSl false (qb .i64)) R n s.1∧True) (fun(s:(List Int)×Int) (c:Code) R O=>False) _ _ rfl qbq (zgx (N:=N) ab) (List.Perm.refl _) (by decide) (by rintro _ _ _ ⟨_,rfl,_⟩;rfl) (by rintro s R2 R3 O2 j ⟨n,P,Q,_⟩;exact⟨n,P,Q.mono j,trivial⟩) (fun _ _ _ _ _ _ h=>h) (fun _ _ _ _ _ h=>h.elim) ⟨vs0,⟨[],(pk 1 rfl (pk 0 rfl (List.Perm.refl _)))⟩,z5w,trivial⟩ ac ?_ ?_ ?_
 rintro az H aA aB ai aC aj ak al S ⟨n,⟨_,P⟩,Q,_⟩ z aD;have x:=z;clear z;(try dsimp only at x);refine zhu (zlm P) ?_;obtain⟨q,rfl,I⟩:=S;refine zm (zi q (z8 ?_));refine⟨rfl,rfl,(RH.le.refl _),[box t [n] 32,box u [(vi H.2)] 3],List.Perm.refl _,fun aE=>?_⟩
 refine zx (zk (zh q (jr (i:=0) (vs:=[q]) zvf rfl rfl (z4b I) rfl rfl rfl (qf (z6d I) jv) ?_)));refine z8 (zm (zl (qi (i:=1) ag3 rfl rfl rfl) ?_));obtain⟨ad,x⟩:=zb x;refine zl (jg rfl rfl ad) (jr (i:=1) (vs:=[(vi (H.2+1))]) sz3 rfl rfl rfl rfl rfl rfl (qf rfl jv) ?_)
 refine z8 ?_;obtain⟨rfl,rfl⟩:=Prod.mk.inj (Option.some.inj x);exact⟨rfl,(RH.le.refl _),[box t [q] 32,box u [(vi (H.2+1))] 3],List.Perm.refl _,rfl,⟨q,⟨[],List.Perm.refl _⟩,I,trivial⟩⟩;rintro aF aG am U ⟨f,⟨_,P⟩,K,_⟩;refine⟨_,_,P,?_⟩
 refine zt (zpo [2,3] [(fun es=>phX f),(fun es=>phX (vi g.2)),(fun es=>(fun _ _=>True)),(fun es=>(fun _ _=>True)),(fun es=>phX (vi 0))] (fun fl es R O=>(fl=[false,false]∧O.Perm ([box t [f] 32,box u [(vi g.2)] 3]++A)∧True)∨(fl=[true,false]∧O.Perm ([box t [f] 32,box u [(vi g.2)] 3]++A)∧True)∨(fl=[true,true]∧O.Perm ([box t [f] 32,box u [(vi g.2)] 3]++A)∧True)) mixed (by kernel_rfl) ⟨(dm zq),(dm zq),(fun _ _ _ _ _ h=>h),(fun _ _ _ _ _ h=>h),(dm zq),trivial⟩ (by rintro fl es R R' O j (⟨rfl,b,_⟩|⟨rfl,b,_⟩|⟨rfl,b,_⟩);exact(.inl ⟨rfl,b,trivial⟩);exact(.inr (.inl ⟨rfl,b,trivial⟩));exact(.inr (.inr ⟨rfl,b,trivial⟩))) ⟨(fun _ _ _ _ _ h=>h),(fun _ _ _ _ _ h=>h),(fun _ _ _ _ _ h=>h),(fun _ _ _ _ _ h=>h),(fun _ _ _ _ _ h=>h),trivial⟩ (fun es=> .inl ⟨rfl,(List.Perm.refl _),trivial⟩) ⟨?_,?_,?_,?_,?_,trivial⟩ fun aH B=>?_)
 intro l aI fl O j y L C E;rcases E with⟨rfl,b,_⟩|⟨rfl,b,_⟩|⟨rfl,b,_⟩;exact z7s b (q8 (qi (i:=0) zcj (y 2 rfl) rfl rfl));exact z8m C (by kernel_rfl);exact z8m C (by kernel_rfl);intro l aJ fl O j y L C E;rcases E with⟨rfl,b,_⟩|⟨rfl,b,_⟩|⟨rfl,b,_⟩;exact z7s b (q8 (qi (i:=1) ag3 (y 3 rfl) rfl rfl))
 exact z7s b (q8 (qi (i:=1) ag3 (y 3 rfl) rfl rfl));exact z8m C (by kernel_rfl);intro l aK fl O j y L C V E;obtain⟨W,d1,d2,_⟩:=L;rcases E with⟨rfl,b,_⟩|⟨rfl,b,_⟩|⟨rfl,b,_⟩;refine z4d b ?_
 refine Eff.mono (z6h (i:=0) (vs:=[f]) zvf (y 2 rfl) (W rfl) (z4b K) rfl rfl (Nat.le_of_ble_eq_true rfl) (qf (z6d K) jv)) ?_;rintro v R' O' hle' ⟨_,rfl,rfl⟩;exact⟨trivial,.inr (.inl ⟨rfl,(List.Perm.refl _),trivial⟩)⟩;cases V;cases V;intro l aL fl O j y L C V E;obtain⟨W,d1,d2,d3,d4,_⟩:=L
 rcases E with⟨rfl,b,_⟩|⟨rfl,b,_⟩|⟨rfl,b,_⟩;exact z8m C (by kernel_rfl);refine z4d b ?_;refine Eff.mono (z6h (i:=1) (vs:=[(vi g.2)]) sz3 (y 3 rfl) (W rfl) rfl rfl rfl (Nat.le_of_ble_eq_true rfl) (qf rfl jv)) ?_;rintro v R' O' hle' ⟨_,rfl,rfl⟩;exact⟨trivial,.inr (.inr ⟨rfl,(List.Perm.refl _),trivial⟩)⟩;cases V
 intro l aO fl O j y L C E;obtain⟨W,d1,d2,d3,d4,_⟩:=L;exact q8 (l9 rfl);intro aP aQ aR ae af ag;rintro ap (⟨e,_⟩|⟨e,_⟩|⟨_,b,_⟩);cases e;cases e;refine⟨[],_,b,?_⟩;obtain rfl:=Eq.symm ae;obtain rfl:=Eq.symm af;obtain rfl:=Eq.symm ag;refine z8 (qx ?_);obtain rfl:=Option.some.inj a
 refine qd (D:=[]) (J:=[box t [f] 32,box u [(vi g.2)] 3]) (rs:=[.cell 2 32,.cell 3 3,.tmp 4]) (vs:=[f,(vi g.2),(vi 0)]) ((((k.trans d).trans M).trans U).trans B) rfl rfl ⟨⟨_,rfl,fun w G=>zfh (i:=0) G rfl rfl zcj  ⟩,⟨_,rfl,fun w G=>zfh (i:=1) G rfl rfl ag3  ⟩,rfl,trivial⟩ ?_
 exact⟨rfl,⟨f,rfl,(K.mono B)⟩⟩;exact fun _ _ _ _ _ h=>h.elim
theorem qe3:Enters prog 93:=enters_of func93 rfl (by kernel_rfl)
theorem zjd{N:Nat}{R:RH}{x:(List Int)}{d:Value}(h:VRep (tSl false (qb .i64)) R d x){r:Int}(b:slices_Max_int N x=some r):CallP prog 94 #[d] R (fun v R'=>v=(vi r)):=by
 refine qh (args:=[d]) func94 rfl rfl fun A=>?_;rw [slices_Max_int] at b;refine zk (zi (vi 0) (z8 (zt (zk (zh d (zl (qw rfl underlying32 rfl (ja h)) (zl (j6 rfl rfl) (z8 (zu rfl b (fun b=>?_) (fun b=>?_))))))))));exact qo b;refine qa (zk (zh d ?_));obtain⟨q,b⟩:=zb b
 refine kg (i:=(0:Int).toNat) rfl ic rfl (ja h) (zg rfl q.1) (zy q) fun C s=>?_;refine qj rfl ty3 rfl s fun E t=>?_;obtain rfl:=j5.1 t;refine zi (vi (ix x 0)) (z8 ?_);obtain⟨k,a,b⟩:=zo b
 refine qp (γ:=Int) (rs [3,5,12,24]) (fun g=>[(3,(vi g))]) (fun g=>[]++A) (fun g R=>k=g∧True) ?_ ?_
 refine zk (zi (vi 1) (z8 (zx (jc (γ:=Nat×Int×Int) (rs [3,5,12,24]) (fun g=>[(3,(vi g.2.1)),(4,(vi g.2.2))]) (fun g=>[]++A) (fun g R=>ry N x g.1 g.2.1 g.2.2=some k∧True) (fun g=>g.1) (N,(ix x 0),1) prm ⟨a,trivial⟩ ?_))));clear a;rintro⟨j,e,c⟩ u w f ⟨a,_⟩;rcases j with _|j
 exact qo a;replace a:ry N x (j+1) e c=some k:=a;rw [ry] at a;refine zt (zk (zh (vi c) (zh d (zl (qw rfl underlying32 rfl (ja (h.mono f))) (zl (j6 rfl rfl) (z8 (zu rfl a (fun a=>?_) (fun a=>?_))))))))
 refine qa (zt (zx (zm (zh (vi e) (zh d (zh (vi c) ?_))))));obtain⟨l,a⟩:=zb a;refine kg (i:=c.toNat) rfl ic rfl (ja (h.mono f)) (zg rfl l.1) (zy l) fun y m=>?_;refine qj rfl ty3 rfl m fun z n=>?_;obtain rfl:=j5.1 n
 refine zl (zsl rfl underlying3 rfl rfl) (zi (vi (max e (ix x c))) (z8 (zm (zh (vi c) ?_))));obtain⟨o,a⟩:=zb a;refine zl (jg rfl rfl o) (zi (vi (c+1)) (z8 ?_));exact⟨dkt,(RH.le.refl _),jm,(j,max e (ix x c),c+1),Nat.lt_succ_self _,⟨rfl,rfl,trivial⟩,prm,a,trivial⟩;refine jf ?_
 exact⟨dkt,f,jm,e,⟨rfl,trivial⟩,prm,(Option.some.inj a).symm,trivial⟩;rintro k B F p ⟨rfl,_⟩;refine zk (zh (vi k) (zi (vi k) (z8 (qx ?_))));obtain rfl:=Option.some.inj b;refine qd (D:=[]) (J:=[]) (rs:=[.tmp 2]) (vs:=[(vi k)]) p rfl rfl ⟨rfl,trivial⟩ ?_;exact⟨rfl,rfl⟩
theorem qdu:Enters prog 94:=enters_of func94 rfl (by kernel_rfl)
theorem zfy{N:Nat}{R:RH}{p0_:Mach}{b:Value}(d:PRep (jy false false) R b p0_){r:Bool}(a:z4c N p0_=some r):CallP prog 92 #[b] R (fun v R'=>v=(.bool r)):=by
 refine qh (args:=[b]) func92 rfl rfl fun A=>?_;rw [z4c] at a;refine zk (zi (.bool false) (j4 (qj rfl z2i rfl d fun s m=>?_)));obtain⟨e,n,a⟩:=zo a;refine jh rfl qe3 rfl (zic m n) fun t u i o=>?_;obtain⟨h,rfl,f⟩:=o
 refine zh (.tuple #[h,(vi e.2.1),(vi e.2.2)]) (zl (jl rfl rfl) (zl (jl rfl rfl) (zl (jl rfl rfl) (zi h (zi (vi e.2.1) (zi (vi e.2.2) (j4 (zh h ?_))))))));obtain⟨g,j,a⟩:=zo a;refine jh rfl qdu rfl (zjd f j) fun p q c k=>?_;obtain rfl:=k
 refine zh h (zl (qw rfl underlying32 rfl (ja (f.mono c))) ?_);obtain⟨l,a⟩:=zb a;refine zl (z6q rfl rfl l) (zl (yu rfl rfl) (zi (.bool (decide (g=((↑e.1.length:Int)-1)))) (z8 (qx ?_))));obtain rfl:=Option.some.inj a
 refine qd (D:=[]) (J:=[]) (rs:=[.tmp 1]) (vs:=[(.bool (decide (g=((↑e.1.length:Int)-1))))]) (i.trans c) rfl rfl ⟨rfl,trivial⟩ ?_;exact⟨rfl,rfl⟩
theorem qct:Enters prog 92:=enters_of func92 rfl (by kernel_rfl)
theorem zgf{N:Nat}{R:RH}{m:Mach}{o:Value}(k:VRep (jy false false) R o m){r:Int}(a:z4s N m=some r):CallP prog 56 #[o] R (fun v R'=>v=(vi r)):=by
 refine qh (args:=[o]) func56 rfl rfl fun A=>?_;rw [z4s] at a;refine zk (ug (T:=(jy false false)) rfl rfl rfl k fun v1 R3 e P h2=>?_);refine zi (vi 0) (z8 (zt (zk (zl (u7 z2i rfl rfl P (k.mono e)) ?_))));obtain⟨y,Q,a⟩:=zo a
 refine jh rfl q5a rfl (z6l (k.mono e) Q) fun v8 S b U=>?_;obtain rfl:=U;refine zi (vi y) (j4 (zh (vi y) (zl (xm rfl rfl) (z8 (zu rfl a (fun a=>?_) (fun a=>?_))))));refine zk (zh (vi y) (zi (vi y) (z8 (qx ?_))));obtain rfl:=Option.some.inj a
 refine qd (D:=[]) (J:=[]) (rs:=[.tmp 2]) (vs:=[(vi y)]) (e.trans b) rfl rfl ⟨rfl,trivial⟩ ?_;exact⟨rfl,rfl⟩;refine qa (zt (zk (zl (u7 z2i rfl rfl (P.mono b) (k.mono (e.trans b))) ?_)));obtain⟨V,B,a⟩:=zo a;refine jh rfl qdx rfl (ziu (k.mono (e.trans b)) B) fun W X h C=>?_
 obtain⟨c,f,g,rfl,E,F,G⟩:=C;refine zh (vi 0) (z8 (zx (zyy 8 ?_)));refine zbn ?_;refine zk (zl (j6 rfl rfl) (z8 (zt ?_)));refine zhm rfl (fun p=>?_) (fun p=>absurd p (by decide));clear p
 refine qa (zt (zx (zk (zl (zje (v:=(.agg #[(vi 9),(.func (.func 88) #[] #[c]),(vi 11),(.func (.func 90) #[] #[f]),(vi 12),(.func (.func 92) #[] #[g])])) (i:=(vi 0)) (u:=(.agg #[(vi 9),(.func (.func 88) #[] #[c])])) rfl rfl (fun w=>by kernel_rfl)) (kv rfl q2c fun l=>?_)))))
 refine jr (i:=0) (vs:=[(vi 9),(.func (.func 88) #[] #[c])]) q40 rfl rfl rfl rfl rfl rfl (qf rfl (qf rfl jv)) ?_;refine j4 (zl (qg zqa rfl) (zl (qi (i:=0) q9j rfl rfl rfl) ?_));obtain⟨Y,H,a⟩:=zo a;refine zli (cs:=[c]) (vs:=[]) rfl qd5 rfl rfl (zg5 E H) fun Z aa d I=>?_
 obtain rfl:=I;refine zl (z0r rfl) (z8 (zu rfl a (fun a=>?_) (fun a=>?_)));refine zk (zl (qg zqe rfl) (zl (qi (i:=0) q9l rfl rfl rfl) (zi (vi 9) (z8 (qx ?_)))));obtain rfl:=Option.some.inj a
 refine qd (D:=[]) (J:=[box l [(vi 9),(.func (.func 88) #[] #[c])] 121]) (rs:=[.tmp 2]) (vs:=[(vi 9)]) (((e.trans b).trans h).trans d) rfl rfl ⟨rfl,trivial⟩ ?_;exact⟨rfl,rfl⟩;refine qa (zm (zl (jg rfl rfl (by decide)) (zh (vi 1) (z8 (zbn ?_)))));refine zk (zl (j6 rfl rfl) (z8 (zt ?_)))
 refine zhm rfl (fun q=>?_) (fun q=>absurd q (by decide));clear q
 refine qa (zt (zx (zk (zl (zje (v:=(.agg #[(vi 9),(.func (.func 88) #[] #[c]),(vi 11),(.func (.func 90) #[] #[f]),(vi 12),(.func (.func 92) #[] #[g])])) (i:=(vi 1)) (u:=(.agg #[(vi 11),(.func (.func 90) #[] #[f])])) rfl rfl (fun w=>by kernel_rfl)) (kv rfl q2c fun s=>?_)))))
 refine jr (i:=0) (vs:=[(vi 11),(.func (.func 90) #[] #[f])]) q40 rfl rfl rfl rfl rfl rfl (qf rfl (qf rfl jv)) ?_;refine j4 (zl (qg zqa rfl) (zl (qi (i:=0) q9j rfl rfl rfl) ?_));obtain⟨ab,K,a⟩:=zo a
 refine zli (cs:=[f]) (vs:=[]) rfl qe7 rfl rfl (zg3 (F.mono d) K) fun ac ad j L=>?_;obtain rfl:=L;refine zl (z0r rfl) (z8 (zu rfl a (fun a=>?_) (fun a=>?_)));refine zk (zl (qg zqe rfl) (zl (qi (i:=0) q9l rfl rfl rfl) (zi (vi 11) (z8 (qx ?_)))));obtain rfl:=Option.some.inj a
 refine qd (D:=[]) (J:=[box s [(vi 11),(.func (.func 90) #[] #[f])] 121,box l [(vi 9),(.func (.func 88) #[] #[c])] 121]) (rs:=[.tmp 2]) (vs:=[(vi 11)]) ((((e.trans b).trans h).trans d).trans j) rfl rfl ⟨rfl,trivial⟩ ?_;exact⟨rfl,rfl⟩
 refine qa (zm (zl (jg rfl rfl (by decide)) (zh (vi 2) (z8 (zbn ?_)))));refine zk (zl (j6 rfl rfl) (z8 (zt ?_)));refine zhm rfl (fun t=>?_) (fun t=>absurd t (by decide));clear t
 refine qa (zt (zx (zk (zl (zje (v:=(.agg #[(vi 9),(.func (.func 88) #[] #[c]),(vi 11),(.func (.func 90) #[] #[f]),(vi 12),(.func (.func 92) #[] #[g])])) (i:=(vi 2)) (u:=(.agg #[(vi 12),(.func (.func 92) #[] #[g])])) rfl rfl (fun w=>by kernel_rfl)) (kv rfl q2c fun z=>?_)))))
 refine jr (i:=0) (vs:=[(vi 12),(.func (.func 92) #[] #[g])]) q40 rfl rfl rfl rfl rfl rfl (qf rfl (qf rfl jv)) ?_;refine j4 (zl (qg zqa rfl) (zl (qi (i:=0) q9j rfl rfl rfl) ?_));obtain⟨ae,M,a⟩:=zo a
 refine zli (cs:=[g]) (vs:=[]) rfl qct rfl rfl (zfy (G.mono (d.trans j)) M) fun af ag n O=>?_;obtain rfl:=O;refine zl (z0r rfl) (z8 (zu rfl a (fun a=>?_) (fun a=>?_)));refine zk (zl (qg zqe rfl) (zl (qi (i:=0) q9l rfl rfl rfl) (zi (vi 12) (z8 (qx ?_)))))
 obtain rfl:=Option.some.inj a;refine qd (D:=[]) (J:=[box z [(vi 12),(.func (.func 92) #[] #[g])] 121,box s [(vi 11),(.func (.func 90) #[] #[f])] 121,box l [(vi 9),(.func (.func 88) #[] #[c])] 121]) (rs:=[.tmp 2]) (vs:=[(vi 12)]) (((((e.trans b).trans h).trans d).trans j).trans n) rfl rfl ⟨rfl,trivial⟩ ?_
 exact⟨rfl,rfl⟩;refine qa (zm (zl (jg rfl rfl (by decide)) (zh (vi 3) (z8 (zbn ?_)))));refine zk (zl (j6 rfl rfl) (z8 (zt (zhm rfl (fun x=>absurd x (by decide)) (fun x=>?_)))));clear x;refine jf ?_;refine zk (zi (vi 0) (z8 (qx ?_)));obtain rfl:=Option.some.inj a
 refine qd (D:=[]) (J:=[box z [(vi 12),(.func (.func 92) #[] #[g])] 121,box s [(vi 11),(.func (.func 90) #[] #[f])] 121,box l [(vi 9),(.func (.func 88) #[] #[c])] 121]) (rs:=[.tmp 2]) (vs:=[(vi 0)]) (((((e.trans b).trans h).trans d).trans j).trans n) rfl rfl ⟨rfl,trivial⟩ ?_;exact⟨rfl,rfl⟩
theorem qdm:Enters prog 56:=enters_of func56 rfl (by kernel_rfl)
theorem z8j{N:Nat}{R:RH}{m:Mach}{d:Value}(e:VRep (jy false false) R d m){r:Int}(a:z2m N m=some r):CallP prog 31 #[d] R (fun v R'=>v=(vi r)):=by
 refine qh (args:=[d]) func31 rfl rfl fun A=>?_;rw [z2m] at a;refine zk (ug (T:=(jy false false)) rfl rfl rfl e fun q s c i j=>?_);refine zi (vi 0) (z8 (zt (zk (zl (u7 z2i rfl rfl i (e.mono c)) ?_))));obtain⟨f,k,a⟩:=zo a
 refine jh rfl qdm rfl (zgf (e.mono c) k) fun t l b n=>?_;obtain rfl:=n;refine zi (vi f) (j4 (zh (vi f) (zl (xm rfl rfl) (z8 (zu rfl a (fun a=>?_) (fun a=>?_))))));refine zk (zh (vi f) (zi (vi f) (z8 (qx ?_))));obtain rfl:=Option.some.inj a
 refine qd (D:=[]) (J:=[]) (rs:=[.tmp 2]) (vs:=[(vi f)]) (c.trans b) rfl rfl ⟨rfl,trivial⟩ ?_;exact⟨rfl,rfl⟩;refine qa (zt (zk (je rfl xc uy rfl (j.mono b) fun o g=>?_)));refine qj rfl z3p rfl g fun p h=>?_
 refine zl (qw rfl underlying28 rfl (ja h)) (zl (z5a rfl rfl) (z8 (zu rfl a (fun a=>?_) (fun a=>?_))));refine zk (zi (vi 3) (z8 (qx ?_)));obtain rfl:=Option.some.inj a;refine qd (D:=[]) (J:=[]) (rs:=[.tmp 2]) (vs:=[(vi 3)]) (c.trans b) rfl rfl ⟨rfl,trivial⟩ ?_;exact⟨rfl,rfl⟩
 refine qa (zk (zi (vi 0) (z8 (qx ?_))));obtain rfl:=Option.some.inj a;refine qd (D:=[]) (J:=[]) (rs:=[.tmp 2]) (vs:=[(vi 0)]) (c.trans b) rfl rfl ⟨rfl,trivial⟩ ?_;exact⟨rfl,rfl⟩
theorem q66:Enters prog 31:=enters_of func31 rfl (by kernel_rfl)
theorem q1r: ∀ w,∃ z,(zeroValue 92).run prog w= .ok z w∧z.cells=((jd (lq 6 (List.replicate 6 (0:Int))))).toArray:=fun w=>⟨(.agg #[(.int .u16 0),(.int .u16 0),(.int .u16 0),(.int .u16 0),(.int .u16 0),(.int .u16 0)]),by kernel_rfl,by kernel_rfl⟩
theorem zvm:ArrOk prog 92 6 1:=zem (e:=71) underlying92 (fun w=>by kernel_rfl)
theorem q3f: ∀ w,(sizeOf 71).run prog w= .ok 1 w:=fun w=>by kernel_rfl
theorem zhf: ∀ w,(isAgg 92).run prog w= .ok true w:=fun w=>by kernel_rfl
theorem zc0: ∀ w,(sizeOf 92).run prog w= .ok 6 w:=fun w=>by kernel_rfl
theorem zln{N:Nat}{R:RH}{n:Int}{r:(Arr 6 Int)}(c:z8a N n=some r):CallP prog 58 #[(vi n)] R (fun v R'=>v=(ji r)):=by
 refine qh (args:=[(vi n)]) func58 rfl rfl fun A=>?_;rw [z8a] at c;refine zk (kv rfl q1r fun l=>?_);refine z8 ?_;obtain⟨d,a,c⟩:=zo c;refine qp (γ:=((Arr 6 Int))) (rs [3,18]) (fun g=>[]) (fun g=>[box l (jd g) 92]++A) (fun g R=>d=g∧True) ?_ ?_
 refine zk (zh (vi n) (zh (vi 0) (z8 (zx (jc (γ:=Nat×Int×((Arr 6 Int))) (rs [3,4,5,18]) (fun g=>[(5,(vi g.2.1))]) (fun g=>[box l (jd g.2.2) 92]++A) (fun g R=>af N n g.1 g.2.1 g.2.2=some d∧True) (fun g=>g.1) (N,0,(lq 6 (List.replicate 6 (0:Int)))) prm ⟨a,trivial⟩ ?_)))));clear a
 rintro⟨k,b,f⟩ y E h ⟨a,_⟩;rcases k with _|k;exact qo a;replace a:af N n (k+1) b f=some d:=a;rw [af] at a;refine zk (zl (j6 rfl rfl) (z8 (zt (zu rfl a (fun a=>?_) (fun a=>?_)))))
 refine qa (zt (zx (zk (zh (vi b) (zi (vi b) (z8 (zm (zh (vi b) (zh (vi b) (zl (zgo underlying3 underlying71 rfl) ?_))))))))));obtain⟨m,a⟩:=zb a;refine zl (z7c rfl rfl m) (zh (vi n) ?_);obtain⟨p,a⟩:=zb a
 refine zl (z7c rfl rfl p) (zl (znk rfl rfl) ?_);obtain⟨s,a⟩:=zb a;refine zl (zhl rfl rfl s) ?_;obtain⟨e,a⟩:=zb a
 refine zl (z1s (i:=b.toNat) zvm rfl (zg rfl e.1) (Nat.lt_of_lt_of_eq (zy e) f.2)) (z98 (sz:=1) (cl:=(fun x:Int=>[Value.int .u16 x])) (z:=ior (lh .u16 (IntKind.u16.wrap b) (8:Int)) (IntKind.u16.wrap ((lh .u16 (1:Int) n)-1))) (vs:=[(.int .u16 (ior (lh .u16 (IntKind.u16.wrap b) (8:Int)) (IntKind.u16.wrap ((lh .u16 (1:Int) n)-1))))]) (q:=b) (i:=b.toNat) (o:=0) (j:=0) (X:=f) cells_int.len q3f rfl rfl (by omega) rfl (Nat.lt_of_lt_of_eq (zy e) f.2) rfl rfl rfl (qf rfl jv) rfl rfl ?_)
 refine z8 (zm ?_);obtain⟨t,a⟩:=zb a;refine zl (jg rfl rfl t) (zh (vi (b+1)) (z8 ?_));exact⟨dkt,(RH.le.refl _),jm,(k,b+1,(z0g f b (ior (lh .u16 (IntKind.u16.wrap b) (8:Int)) (IntKind.u16.wrap ((lh .u16 (1:Int) n)-1))))),Nat.lt_succ_self _,⟨rfl,trivial⟩,prm,a,trivial⟩;refine jf ?_
 exact⟨dkt,h,jm,f,trivial,prm,(Option.some.inj a).symm,trivial⟩;rintro d B F u ⟨rfl,_⟩;refine zk (zl (iw (j:=0) (v:=(ji d)) zhf zc0 rfl rfl (co_A6tIntu16.len _) rfl) (z0q (j:=0) (cs:=(jd d)) (cs':=(jd d)) zc0 rfl rfl (co_A6tIntu16.len _) (co_A6tIntu16.len _) rfl rfl (z2v (z4i _)) ?_))
 refine z8 (qx ?_);obtain rfl:=Option.some.inj c;refine qd (D:=[]) (J:=[box l (jd d) 92]) (rs:=[.cell 2 92]) (vs:=[(ji d)]) u rfl rfl ⟨⟨_,rfl,fun w C=>z95 (i:=0) C rfl zhf zc0 (co_A6tIntu16.len _)⟩,trivial⟩ ?_;exact⟨rfl,rfl⟩
end GV
end Go.Proofs.Ytnnobdkjgafdmaa
