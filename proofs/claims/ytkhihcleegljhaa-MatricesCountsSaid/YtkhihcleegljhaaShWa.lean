import Derived.Test.YtkhihcleegljhaaShPlain
import Derived.Test.YtkhihcleegljhaaRows
set_option linter.unusedVariables false
set_option linter.unusedSimpArgs false
namespace Go.Proofs.Ytkhihcleegljhaa
namespace GV
open _root_.Go.Proofs.Try
open Go.IntWalk
set_option maxRecDepth 100000
set_option maxHeartbeats 20000000
theorem zdz: ∀ w,∃ z,(zeroValue 27).run prog w= .ok z w∧z.cells=([.slice none 0 0]:List Value).toArray:=fun w=>⟨(.agg #[vs0]),by kernel_rfl,rfl⟩
theorem z03: ∀ w,(sizeOf 27).run prog w= .ok 1 w:=fun w=>by kernel_rfl
theorem zo3:ZeroOk prog 3 (zu .i64) (0:Int) 8:=by
 obtain⟨i,zv,hi,a,c,d,f⟩:=z2o (P:=prog) (e:=3) (zv:=(vi 0)) (k:=1) (b:=8) (by kernel_rfl);exact⟨i,zv,hi,a,c,d,fun R=>by subst f;exact rfl⟩
theorem ry:FieldOk prog 27 0 0:=by
 obtain⟨i,hi,a⟩: ∃ i,prog.info? 25=some i∧i.size=1:=gm (by kernel_rfl);exact z1l underlying27 rfl rfl hi (by rw [a];rfl)
theorem zfo: ∀ w,(isAgg 25).run prog w= .ok false w:=fun w=>by kernel_rfl
theorem zfr{a:Bool}:ZeroOk prog 33 (tSl a (zu .i64)) ([]:List Int) 24:=by
 obtain⟨i,zv,hi,c,d,f,g⟩:=z2o (P:=prog) (e:=33) (zv:=vs0) (k:=1) (b:=24) (by kernel_rfl);exact⟨i,zv,hi,c,d,f,fun R=>by subst g;exact(jf rfl z0p)⟩
theorem z2t: ∀ w,(isAgg 27).run prog w= .ok true w:=fun w=>by kernel_rfl
theorem z1o{a b:Bool}:TyOk prog 27 (zn a b):=by
 obtain⟨i,hi,c⟩: ∃ i,prog.info? 27=some i∧i.size=1:=gm (by kernel_rfl);exact z0d underlying27 hi rfl c
theorem z7n{a b:Bool}:TyOk prog 25 (tSl a (tSl b (zu .i64))):=by
 obtain⟨i,hi,c⟩: ∃ i,prog.info? 25=some i∧i.size=1:=gm (by kernel_rfl);exact z0d underlying25 hi rfl c
theorem z7s{a:Bool}:TyOk prog 33 (tSl a (zu .i64)):=by
 obtain⟨i,hi,b⟩: ∃ i,prog.info? 33=some i∧i.size=1:=gm (by kernel_rfl);exact z0d underlying33 hi rfl b
theorem z7q{a:Bool}:SlOk prog 25 33 (tSl a (zu .i64)):=⟨underlying25,z7s⟩
theorem nz{N:Nat}{R:RH}{x:Sa}{h:Value}(n:VRep (zn false false) R h x){r:Int}(d:wy N x=some r):CallP prog 29 #[h] R (fun v R'=>v=(vi r)):=by
 refine qg (args:=[h]) func29 rfl rfl fun A=>?_;rw [wy] at d;refine zm (vv (T:=(zn false false)) rfl rfl rfl n fun F G o H w=>?_);refine zh (vi 0) (z8 ?_);obtain⟨j,a,d⟩:=zo d
 refine qj (γ:=Int) (rs [2,3,4,17]) (fun g=>[(2,(vi g))]) (fun g=>[]++A) (fun g R=>j=g∧True) ?_ ?_;refine zm (xn rfl ry ji rfl w fun I p=>?_);refine qz rfl z7n rfl p fun y k=>?_
 refine zy (qm rfl underlying25 rfl (jk k)) (ze (vi 0) (z8 (qb (qy (γ:=Nat×Int×Int) (rs [2,3,4,5,8,17]) (fun g=>[(2,(vi g.2.1)),(8,(vi g.2.2))]) (fun g=>[]++A) (fun g R=>kw N x g.1 g.2.1 g.2.2=some j∧True) (fun g=>g.1) (N,0,0) prm ⟨a,trivial⟩ ?_))));clear a
 rintro⟨e,c,b⟩ z B f ⟨a,_⟩;rcases e with _|e;exact qo a;replace a:kw N x (e+1) c b=some j:=a;rw [kw] at a;refine zm (zy (j5 rfl rfl) (z8 (zz (zx rfl a (fun a=>?_) (fun a=>?_)))));refine qa (zz (qb (zm ?_)));obtain⟨l,a⟩:=zb a
 refine jy (i:=b.toNat) rfl z7q rfl (jk (k.mono f)) (zi rfl l.1) (q8 l) fun C q=>?_;refine qz rfl z7s rfl q fun m s=>?_
 refine zh m (z8 (zw (ze (vi c) (ze m (zy (qm rfl underlying33 rfl (jk s)) (zy (zc3 rfl underlying3 rfl rfl) (zh (vi (max c (↑(ix x.fB b).length:Int))) (z8 (zw ?_)))))))));obtain⟨t,a⟩:=zb a;refine zy (qi rfl rfl t) (ze (vi (b+1)) (z8 ?_))
 exact⟨dkt,(RH.le.refl _),jc,(e,max c (↑(ix x.fB b).length:Int),b+1),Nat.lt_succ_self _,⟨rfl,rfl,trivial⟩,prm,a,trivial⟩;refine ja ?_;exact⟨dkt,f,jc,c,⟨rfl,trivial⟩,prm,(Option.some.inj a).symm,trivial⟩;rintro j E K u ⟨rfl,_⟩;refine zm (ze (vi j) (zh (vi j) (z8 (qd ?_))))
 obtain rfl:=Option.some.inj d;refine qc (D:=[]) (J:=[]) (rs:=[.tmp 2]) (vs:=[(vi j)]) (o.trans u) rfl rfl ⟨rfl,trivial⟩ ?_;exact⟨rfl,rfl⟩
theorem zjs:Enters prog 29:=enters_of func29 rfl (by kernel_rfl)
theorem ty3:TyOk prog 3 (zu .i64):=by
 obtain⟨i,hi,a⟩: ∃ i,prog.info? 3=some i∧i.size=1:=gm (by kernel_rfl);exact z0d underlying3 hi rfl a
theorem l5:SlOk prog 33 3 (zu .i64):=⟨underlying33,ty3⟩
theorem ll{N:Nat}{R:RH}{x:Sa}{y:Value}(z:VRep (zn false false) R y x){r:Int}(c:og N x=some r):CallP prog 18 #[y] R (fun v R'=>v=(vi r)):=by
 refine qg (args:=[y]) func18 rfl rfl fun A=>?_;rw [og] at c;refine zm (vv (T:=(zn false false)) rfl rfl rfl z fun v1 R3 m h5 Z=>?_);refine zh (vi 0) (qp (zy (jq z1o rfl rfl h5 (z.mono m)) ?_));obtain⟨H,c7,c⟩:=zo c
 refine j3 rfl zjs rfl (nz (z.mono m) c7) fun v8 aD d h9=>?_;obtain rfl:=h9;refine zh (vi H) (qp (zh (vi 0) (z8 ?_)));obtain⟨o,a,c⟩:=zo c;refine qj (γ:=Int) (rs [4,5,6,7,13,25]) (fun g=>[(4,(vi g))]) (fun g=>[]++A) (fun g R=>o=g∧True) ?_ ?_
 refine zm (xn rfl ry ji rfl (Z.mono d) fun aF aa=>?_);refine qz rfl z7n rfl aa fun aG I=>?_
 refine zy (qm rfl underlying25 rfl (jk I)) (ze (vi 0) (z8 (qb (qy (γ:=Nat×Int×Int) (rs [4,5,6,7,16,25]) (fun g=>[(4,(vi g.2.1)),(16,(vi g.2.2))]) (fun g=>[]++A) (fun g R=>dm N x g.1 g.2.1 g.2.2=some o∧True) (fun g=>g.1) (N,0,0) prm ⟨a,trivial⟩ ?_))));clear a
 rintro⟨s,p,n⟩ aH aI w ⟨a,_⟩;rcases s with _|s;exact qo a;replace a:dm N x (s+1) p n=some o:=a;rw [dm] at a;refine zm (zy (j5 rfl rfl) (z8 (zz (zx rfl a (fun a=>?_) (fun a=>?_)))));refine qa (zz (qb (zm ?_)));obtain⟨K,a⟩:=zb a
 refine jy (i:=n.toNat) rfl z7q rfl (jk (I.mono w)) (zi rfl K.1) (q8 K) fun aJ ab=>?_;refine qz rfl z7s rfl ab fun L ac=>?_;refine zh L (z8 (zw (ze (vi p) (ze L (zy (qm rfl underlying33 rfl (jk ac)) ?_)))));obtain⟨ad,a⟩:=zb a
 refine zy (qi rfl rfl ad) (zh (vi (p+(↑(ix x.fB n).length:Int))) (z8 (zw ?_)));obtain⟨ae,a⟩:=zb a;refine zy (qi rfl rfl ae) (ze (vi (n+1)) (z8 ?_));exact⟨dkt,(RH.le.refl _),jc,(s,p+(↑(ix x.fB n).length:Int),n+1),Nat.lt_succ_self _,⟨rfl,rfl,trivial⟩,prm,a,trivial⟩;refine ja ?_
 exact⟨dkt,w,jc,p,⟨rfl,trivial⟩,prm,(Option.some.inj a).symm,trivial⟩;rintro o aK aL h ⟨rfl,_⟩;refine zz (zm (zgr rfl (z0y ry ji rfl (Z.mono (d.trans h))) fun aM af=>?_));refine zgr rfl (nk z7n rfl af) fun aN ag=>?_
 refine jl rfl (qm rfl underlying25 rfl (jk ag)) (jl rfl (oq rfl rfl) (jl (v:=(.bool (decide (4096<(↑x.fB.length:Int))))) rfl (za rfl) (j4 rfl rfl rfl rfl (fun M=>ql (v:=(vi H)) (za rfl)) fun aO ah=>?_)));refine j4 rfl rfl rfl rfl (fun M=>ql (oq (ah.1 (zq rfl M)) rfl)) fun aP ai=>?_
 refine jl rfl (df rfl rfl (fun hb=>(ai.1 (zq rfl hb)))) (jl (v:=(.bool ((decide (4096<(↑x.fB.length:Int)))||(decide (4096<H))))) rfl (za rfl) (j4 rfl rfl rfl rfl (fun M=>ql (v:=(vi o)) (za rfl)) fun aQ ak=>?_));refine j4 rfl rfl rfl rfl (fun M=>ql (oq (ak.1 (zq rfl M)) rfl)) fun aR al=>?_
 refine jl rfl (df rfl rfl (fun hb=>(al.1 (zq rfl hb)))) (z8 (zx rfl c (fun c=>?_) (fun c=>?_)));refine zm (zh (vi 3) (z8 (qd ?_)));obtain rfl:=Option.some.inj c;refine qc (D:=[]) (J:=[]) (rs:=[.tmp 2]) (vs:=[(vi 3)]) ((m.trans d).trans h) rfl rfl ⟨rfl,trivial⟩ ?_;exact⟨rfl,rfl⟩;refine qa ?_
 obtain⟨B,a,c⟩:=zo c;refine qj (γ:=Unit) (rs [2,3,8,9,10,11,37,62]) (fun g=>[]) (fun g=>[]++A) (fun g R=>B=Ex.go g∧True) ?_ ?_;refine zm (xn rfl ry ji rfl (Z.mono (d.trans h)) fun aS am=>?_);refine qz rfl z7n rfl am fun aT O=>?_
 refine zy (qm rfl underlying25 rfl (jk O)) (ze (vi 0) (z8 (qb (qy (γ:=Nat×Int) (rs [2,3,8,9,10,11,40,62]) (fun g=>[(40,(vi g.2))]) (fun g=>[]++A) (fun g R=>bu N x H g.1 g.2=some B∧True) (fun g=>g.1) (N,0) prm ⟨a,trivial⟩ ?_))));clear a;rintro⟨t,e⟩ ar aU l ⟨a,_⟩;rcases t with _|t
 exact qo a;replace a:bu N x H (t+1) e=some B:=a;rw [bu] at a;refine zm (zy (j5 rfl rfl) (z8 (zz (zx rfl a (fun a=>?_) (fun a=>?_)))));refine qa ?_;obtain⟨C,b,a⟩:=zo a
 refine qj (γ:=Unit) (rs [2,3,8,9,10,11,42,61]) (fun g=>[]) (fun g=>[]++A) (fun g R=>C=Ex.go g∧True) ?_ ?_;refine qb (zm ?_);obtain⟨P,b⟩:=zb b;refine jy (i:=e.toNat) rfl z7q rfl (jk (O.mono l)) (zi rfl P.1) (q8 P) fun aV an=>?_;refine qz rfl z7s rfl an fun E F=>?_
 refine zh E (z8 (zz (zm (ze E (zy (qm rfl underlying33 rfl (jk F)) (ze (vi H) (zy (uq rfl rfl) (z8 (zx rfl b (fun b=>?_) (fun b=>?_))))))))));refine zm (zh (vi 1) (z8 (qd ?_)));replace a:=ic b a;replace c:=ic a c;obtain rfl:=Option.some.inj c
 refine qc (D:=[]) (J:=[]) (rs:=[.tmp 2]) (vs:=[(vi 1)]) (((m.trans d).trans h).trans l) rfl rfl ⟨rfl,trivial⟩ ?_;exact⟨rfl,rfl⟩
 refine qa (zm (ze E (zy (qm rfl underlying33 rfl (jk F)) (ze (vi 0) (z8 (qb (qy (γ:=Nat×Int) (rs [2,3,10,11,50,61]) (fun g=>[(50,(vi g.2))]) (fun g=>[]++A) (fun g R=>bv N x e g.1 g.2=some C∧True) (fun g=>g.1) (N,0) prm ⟨b,trivial⟩ ?_)))))));clear b;rintro⟨u,j⟩ au aW q ⟨b,_⟩
 rcases u with _|u;exact qo b;replace b:bv N x e (u+1) j=some C:=b;rw [bv] at b;refine zm (zy (j5 rfl rfl) (z8 (zz (zx rfl b (fun b=>?_) (fun b=>?_)))));refine qa ?_;obtain⟨ao,f,b⟩:=zo b
 refine qj (γ:=Unit) (rs [2,3,10,11,52,60]) (fun g=>[]) (fun g=>[]++A) (fun g R=>ao=Ex.go g∧True) ?_ ?_;refine qb (zm ?_);obtain⟨Q,f⟩:=zb f;refine jy (i:=j.toNat) rfl l5 rfl (jk (F.mono q)) (zi rfl Q.1) (q8 Q) fun aX ap=>?_;refine qz rfl ty3 rfl ap fun aY aq=>?_;obtain rfl:=q9.1 aq
 refine zh (vi (ix (ix x.fB e) j)) (z8 (qb ?_));obtain⟨S,k,f⟩:=zo f;refine qj (γ:=Unit) (rs [54,60]) (fun g=>[]) (fun g=>[]++A) (fun g R=>S=Ex.go g∧True) ?_ ?_
 refine qb (qb (zz (zz (zm (ze (vi (ix (ix x.fB e) j)) (zy (j5 rfl rfl) (zh (.bool (decide ((ix (ix x.fB e) j)<(-1)))) (z8 (zx rfl k (fun k=>?_) (fun k=>?_))))))))));refine ja ?_;exact⟨dkt,(RH.le.refl _),jc,(),trivial,prm,(Option.some.inj k).symm,trivial⟩
 refine qa (zm (ze (vi (ix (ix x.fB e) j)) (zy (nu rfl rfl) (zh (.bool (decide (256≤(ix (ix x.fB e) j)))) (z8 (zx rfl k (fun k=>?_) (fun k=>?_)))))));refine ja ?_;exact⟨dkt,(RH.le.refl _),jc,(),trivial,prm,(Option.some.inj k).symm,trivial⟩;refine qa (ja ?_);replace f:=ic k f
 exact⟨dkt,(RH.le.refl _),jc,(),trivial,prm,(Option.some.inj f).symm,trivial⟩;rintro av aw ax G ⟨rfl,_⟩;replace f:=lv f;refine zz (zm (zh (vi 1) (z8 (qd ?_))));replace b:=ic f b;replace a:=ic b a;replace c:=ic a c;obtain rfl:=Option.some.inj c
 refine qc (D:=[]) (J:=[]) (rs:=[.tmp 2]) (vs:=[(vi 1)]) (((((m.trans d).trans h).trans l).trans q).trans G) rfl rfl ⟨rfl,trivial⟩ ?_;exact⟨rfl,rfl⟩;rintro aZ ay a0 U ⟨rfl,_⟩;replace b:=lv b;refine zw ?_;obtain⟨V,b⟩:=zb b;refine zy (qi rfl rfl V) (ze (vi (j+1)) (z8 ?_))
 exact⟨dkt,U,jc,(u,j+1),Nat.lt_succ_self _,⟨rfl,trivial⟩,prm,b,trivial⟩;refine ja ?_;exact⟨dkt,q,jc,(),trivial,prm,(Option.some.inj b).symm,trivial⟩;rintro a1 az a2 W ⟨rfl,_⟩;replace a:=lv a;refine zw ?_;obtain⟨X,a⟩:=zb a;refine zy (qi rfl rfl X) (ze (vi (e+1)) (z8 ?_))
 exact⟨dkt,W,jc,(t,e+1),Nat.lt_succ_self _,⟨rfl,trivial⟩,prm,a,trivial⟩;refine ja ?_;exact⟨dkt,l,jc,(),trivial,prm,(Option.some.inj a).symm,trivial⟩;rintro a3 aA a4 Y ⟨rfl,_⟩;replace c:=lv c;refine zm (zh (vi 0) (z8 (qd ?_)));obtain rfl:=Option.some.inj c
 refine qc (D:=[]) (J:=[]) (rs:=[.tmp 2]) (vs:=[(vi 0)]) (((m.trans d).trans h).trans Y) rfl rfl ⟨rfl,trivial⟩ ?_;exact⟨rfl,rfl⟩
theorem zif:Enters prog 18:=enters_of func18 rfl (by kernel_rfl)
theorem zo4:ZeroOk prog 4 z2n false 1:=by
 obtain⟨i,zv,hi,a,c,d,f⟩:=z2o (P:=prog) (e:=4) (zv:=(.bool false)) (k:=1) (b:=1) (by kernel_rfl);exact⟨i,zv,hi,a,c,d,fun R=>by subst f;exact rfl⟩
theorem z0h{N:Nat}{R:RH}{x:Sa}{b:Value}(e:VRep (zn false false) R b x){row:Int}{column:Int}{r:Bool}(a:dh N x row column=some r):CallP prog 32 #[b,(vi row),(vi column)] R (fun v R'=>v=(.bool r)):=by
 refine qg (args:=[b,(vi row),(vi column)]) func32 rfl rfl fun A=>?_;rw [dh] at a;refine zm (vv (T:=(zn false false)) rfl rfl rfl e fun t u f w l=>?_);refine zh (.bool false) (qp (xn rfl ry ji rfl l fun y m=>?_));refine qz rfl z7n rfl m fun z n=>?_
 refine ze (vi row) ?_;obtain⟨c,a⟩:=zb a;refine jy (i:=row.toNat) rfl z7q rfl (jk n) (zi rfl c.1) (q8 c) fun o g=>?_;refine qz rfl z7s rfl g fun p h=>?_;refine ze (vi column) ?_;obtain⟨d,a⟩:=zb a
 refine jy (i:=column.toNat) rfl l5 rfl (jk h) (zi rfl d.1) (q8 d) fun q j=>?_;refine qz rfl ty3 rfl j fun s k=>?_;obtain rfl:=q9.1 k;refine zy (uq rfl rfl) (zh (.bool (decide ((ix (ix x.fB row) column)≠(-1)))) (z8 (qd ?_)));obtain rfl:=Option.some.inj a
 refine qc (D:=[]) (J:=[]) (rs:=[.tmp 6]) (vs:=[(.bool (decide ((ix (ix x.fB row) column)≠(-1))))]) f rfl rfl ⟨rfl,trivial⟩ ?_;exact⟨rfl,rfl⟩
theorem zm3:Enters prog 32:=enters_of func32 rfl (by kernel_rfl)
theorem p9{N:Nat}{R:RH}{x:Sa}{l:Value}(m:VRep (zn false false) R l x){row:Int}{r:(List Int)}(h:ul N x row=some r):CallP prog 24 #[l,(vi row)] R (fun v R'=>VRep (tSl false (zu .i64)) R' v r):=by
 refine qg (args:=[l,(vi row)]) func24 rfl rfl fun A=>?_;rw [ul] at h;refine zm (vv (T:=(zn false false)) rfl rfl rfl m fun v1 R3 n h5 h2=>?_);refine zh vs0 (z8 ?_);obtain⟨t,a,h⟩:=zo h
 refine qj (γ:=(List Int)×Value×Frag) (rs [4,24]) (fun g=>[(4,g.2.1)]) (fun g=>[g.2.2]++A) (fun g R=>t=g.1∧ORep (zu .i64) R g.2.2 g.2.1 g.1∧True) ?_ ?_;refine zm (xn rfl ry ji rfl h2 fun ak G=>?_);refine qz rfl z7n rfl G fun al H=>?_;refine ze (vi row) ?_;obtain⟨u,a⟩:=zb a
 refine jy (i:=row.toNat) rfl z7q rfl (jk H) (zi rfl u.1) (q8 u) fun am I=>?_;refine qz rfl z7s rfl I fun an K=>?_;refine zy (qm rfl underlying33 rfl (jk K)) (ze (vi 0) (z8 (qb (z7d ?_))))
 refine qy (γ:=Nat×(List Int)×Int×Value×Frag) (rs [4,6,12,24]) (fun g=>[(4,g.2.2.2.1),(12,(vi g.2.2.1))]) (fun g=>[g.2.2.2.2]++A) (fun g R=>ky N x row g.1 g.2.1 g.2.2.1=some t∧ORep (zu .i64) R g.2.2.2.2 g.2.2.2.1 g.2.1∧True) (fun g=>g.1) (N,[],0,vs0,emp) prm ⟨a,(z2v (T:=(zu .i64))),trivial⟩ ?_
 clear a;rintro⟨j,f,b,o,w⟩ ao ap d ⟨a,p,_⟩;rcases j with _|j;exact qo a;replace a:ky N x row (j+1) f b=some t:=a;rw [ky] at a;refine zm (zy (j5 rfl rfl) (z8 (zz (zx rfl a (fun a=>?_) (fun a=>?_)))));refine qa ?_;obtain⟨q,c,a⟩:=zo a
 refine qj (γ:=(List Int)×Value×Frag) (rs [4,6,14,23]) (fun g=>[(4,g.2.1)]) (fun g=>[g.2.2]++A) (fun g R=>q=g.1∧ORep (zu .i64) R g.2.2 g.2.1 g.1∧True) ?_ ?_;refine qb (zm (ze (vi b) (zh (vi b) (qp (zy (jq z1o rfl rfl (h5.mono d) (m.mono (n.trans d))) (ze (vi row) (ze (vi b) ?_)))))))
 obtain⟨aq,L,c⟩:=zo c;refine j3 rfl zm3 rfl (z0h (m.mono (n.trans d)) L) fun ar au e M=>?_;obtain rfl:=M;refine z8 (zx rfl c (fun c=>?_) (fun c=>?_))
 refine zw (ze o (ze (vi b) (bg (T:=(zu .i64)) (X:=([b]:List Int)) (ps:=[(0,(vi b))]) (css:=[[(vi b)]]) rfl underlying33 zo3 rfl rfl (jh ⟨rfl,trivial⟩) rfl rfl (by decide) fun O av s P=>?_)));refine kg (i:=0) rfl P fun Q k S=>?_
 have U:VRep (tSl true (zu .i64)) Q O ([b]:List Int):=(fo S s);obtain⟨y,c⟩:=zb c;refine z10 (i:=0) (X:=f) (Y:=([b]:List Int)) rfl underlying33 zo3 rfl rfl rfl (p.mono (e.trans k)) (jk (Sub.v (B:=(tSl false (zu .i64))) (ui Sub.refl (fun _=>rfl)) U)) y.1 y.2 fun z V W=>?_;refine zh z (z8 ?_)
 exact⟨dkt,(e.trans k),jc,((f++([b]:List Int)),z,V),⟨rfl,trivial⟩,prm,(Option.some.inj c).symm,W,trivial⟩;refine qa ?_;exact⟨dkt,e,jc,(f,o,w),⟨rfl,trivial⟩,prm,(Option.some.inj c).symm,(p.mono e),trivial⟩;rintro⟨q,Z,aa⟩ aw ax C ⟨rfl,ab,_⟩;refine zw ?_;obtain⟨ac,a⟩:=zb a
 refine zy (qi rfl rfl ac) (ze (vi (b+1)) (z8 ?_));exact⟨dkt,C,jc,(j,q,b+1,Z,aa),Nat.lt_succ_self _,⟨rfl,rfl,trivial⟩,prm,a,ab,trivial⟩;refine ja ?_;exact⟨dkt,d,jc,(f,o,w),⟨rfl,trivial⟩,prm,(Option.some.inj a).symm,p,trivial⟩;rintro⟨t,F,ay⟩ az R7 ad ⟨rfl,ae,_⟩
 refine zm (ze F (zh F (z8 (lm (i:=0) rfl ae fun af E ag=>?_))));have ah:VRep (tSl false (zu .i64)) af F t:=(z6k ag);refine qd ?_;obtain rfl:=Option.some.inj h;refine qc (D:=[]) (J:=[]) (rs:=[.tmp 4]) (vs:=[F]) ((n.trans ad).trans E) rfl rfl ⟨rfl,trivial⟩ ?_;exact⟨rfl,ah⟩
theorem zi4:Enters prog 24:=enters_of func24 rfl (by kernel_rfl)
theorem ty4:TyOk prog 4 z2n:=by
 obtain⟨i,hi,a⟩: ∃ i,prog.info? 4=some i∧i.size=1:=gm (by kernel_rfl);exact z0d underlying4 hi rfl a
theorem zis:SlOk prog 29 4 z2n:=⟨underlying29,ty4⟩
theorem z5q{N:Nat}{R:RH}{x:Sa}{t:Value}(l:VRep (zn false false) R t x){r:(List Bool)×Int}(b:z04 N x=some r):CallP prog 7 #[t] R (fun v R'=> ∃ u0,v= .tuple #[u0,(vi r.2)]∧VRep (tSl true z2n) R' u0 r.1):=by
 refine qg (args:=[t]) func7 rfl rfl fun A=>?_;rw [z04] at b;refine zm (vv (T:=(zn false false)) rfl rfl rfl l fun v1 R3 k h5 h2=>?_);refine zh vs0 (zh (vi 0) (z8 (zz (zm (zy (jq z1o rfl rfl h5 (l.mono k)) ?_)))));obtain⟨B,c7,b⟩:=zo b
 refine j3 rfl zif rfl (ll (l.mono k) c7) fun v8 ae f h9=>?_;obtain rfl:=h9;refine zh (vi B) (qp (ze (vi B) (zy (uq rfl rfl) (z8 (zx rfl b (fun b=>?_) (fun b=>?_))))));refine zm (ze (vi B) (zh vs0 (zh (vi B) (z8 (qd ?_)))));obtain rfl:=Option.some.inj b
 refine qc (D:=[]) (J:=[]) (rs:=[.tmp 2,.tmp 3]) (vs:=[vs0,(vi B)]) (k.trans f) rfl rfl ⟨rfl,rfl,trivial⟩ ?_;exact⟨rfl,⟨vs0,rfl,z0p⟩⟩;refine qa (zm (xn rfl ry ji rfl (h2.mono f) fun ag H=>?_));refine qz rfl z7n rfl H fun ah I=>?_
 refine zy (qm rfl underlying25 rfl (jk I)) ?_;obtain⟨p,b⟩:=zb b;refine zbl (T:=z2n) (m:=(↑x.fB.length:Int).toNat) (c:=(↑x.fB.length:Int).toNat) rfl underlying29 zo4 (zi rfl p.1) (zi rfl p.1) (Nat.le_refl _) (zdb p) (zdj p) fun d K u C=>?_;refine zh d (z8 ?_)
 obtain⟨n,a,b⟩:=zo b;refine qj (γ:=(List Bool)×Frag) (rs [6,7,16,30]) (fun g=>[]) (fun g=>[g.2]++A) (fun g R=>n=g.1∧ORep z2n R g.2 d g.1∧capOf d=g.1.length∧True) ?_ ?_
 refine zm (ze d (zy (z3c rfl underlying29 rfl C) (ze (vi 0) (z8 (qb (qy (γ:=Nat×Int×(List Bool)×Frag) (rs [6,7,18,30]) (fun g=>[(18,(vi g.2.1))]) (fun g=>[g.2.2.2]++A) (fun g R=>pg N x g.1 g.2.1 g.2.2.1=some n∧ORep z2n R g.2.2.2 d g.2.2.1∧capOf d=g.2.2.1.length∧True) (fun g=>g.1) (N,0,(mk (↑x.fB.length:Int) false),K) prm ⟨a,C,(u.trans List.length_replicate.symm),trivial⟩ ?_))))))
 clear a;rintro⟨q,e,w,L⟩ ai aj h ⟨a,y,s,_⟩;rcases q with _|q;exact qo a;replace a:pg N x (q+1) e w=some n:=a;rw [pg] at a;refine zm (zy (j5 rfl rfl) (z8 (zz (zx rfl a (fun a=>?_) (fun a=>?_)))))
 refine qa (zz (qb (zm (ze (vi e) (zh (vi e) (z8 (zw (ze d (ze (vi e) (zy (jq z1o rfl rfl (h5.mono (f.trans h)) (l.mono ((k.trans f).trans h))) (ze (vi e) ?_)))))))))));obtain⟨M,O,a⟩:=zo a
 refine j3 rfl zi4 rfl (p9 (l.mono ((k.trans f).trans h)) O) fun ak al o P=>?_;refine zy (qm rfl underlying33 rfl (jk P)) (zy (oq rfl rfl) ?_);obtain⟨z,a⟩:=zb a;refine z1r (i:=e.toNat) rfl zis rfl (y.mono o) (zi rfl z.1) (q8 z) fun am Q=>?_
 refine z4p (i:=e.toNat) (j:=0) ty4 (y.mono o) rfl rfl Q (q8 z) rfl (mq.2 rfl) fun S U=>?_;refine z8 (zw ?_);obtain⟨V,a⟩:=zb a;refine zy (qi rfl rfl V) (ze (vi (e+1)) (z8 ?_))
 exact⟨dkt,o,jc,(q,e+1,(up w e (decide (0<(↑M.length:Int)))),S),Nat.lt_succ_self _,⟨rfl,trivial⟩,prm,a,U,(s.trans List.length_set.symm),trivial⟩;refine ja ?_;exact⟨dkt,h,jc,(w,L),trivial,prm,(Option.some.inj a).symm,y,s,trivial⟩;rintro⟨n,an⟩ ao ap E ⟨rfl,W,F,_⟩
 refine zm (ze d (zh d (zh (vi 0) (z8 (lm (i:=0) rfl W fun X G Y=>?_)))));have Z:VRep (tSl true z2n) X d n:=(fo Y F);refine qd ?_;obtain rfl:=Option.some.inj b;refine qc (D:=[]) (J:=[]) (rs:=[.tmp 2,.tmp 3]) (vs:=[d,(vi 0)]) (((k.trans f).trans E).trans G) rfl rfl ⟨rfl,rfl,trivial⟩ ?_
 exact⟨rfl,⟨d,rfl,Z⟩⟩
theorem en7:Enters prog 7:=enters_of func7 rfl (by kernel_rfl)
theorem z0m{N:Nat}{R:RH}{x:Sa}{m:Value}(G:VRep (zn false false) R m x){is:Int→Option Bool}{d:Value}(s:FOk1 prog R d (zu .i64) z2n is){r:(List Int)}(h:bz N x is=some r):CallP prog 26 #[m,d] R (fun v R'=>VRep (tSl false (zu .i64)) R' v r):=by
 refine qg (args:=[m,d]) func26 rfl rfl fun A=>?_;rw [bz] at h;refine zm (vv (T:=(zn false false)) rfl rfl rfl G fun v1 R3 t h5 h2=>?_);refine zh vs0 (z8 ?_);obtain⟨u,a,h⟩:=zo h
 refine qj (γ:=(List Int)×Value×Frag) (rs [4,20]) (fun g=>[(4,g.2.1)]) (fun g=>[g.2.2]++A) (fun g R=>u=g.1∧ORep (zu .i64) R g.2.2 g.2.1 g.1∧True) ?_ ?_;refine zm (xn rfl ry ji rfl h2 fun ai H=>?_);refine qz rfl z7n rfl H fun aj I=>?_
 refine zy (qm rfl underlying25 rfl (jk I)) (ze (vi 0) (z8 (qb (z7d ?_))))
 refine qy (γ:=Nat×(List Int)×Int×Value×Frag) (rs [4,6,9,20]) (fun g=>[(4,g.2.2.2.1),(9,(vi g.2.2.1))]) (fun g=>[g.2.2.2.2]++A) (fun g R=>wm N x is g.1 g.2.1 g.2.2.1=some u∧ORep (zu .i64) R g.2.2.2.2 g.2.2.2.1 g.2.1∧True) (fun g=>g.1) (N,[],0,vs0,emp) prm ⟨a,(z2v (T:=(zu .i64))),trivial⟩ ?_;clear a
 rintro⟨j,f,b,n,w⟩ ak al k ⟨a,o,_⟩;rcases j with _|j;exact qo a;replace a:wm N x is (j+1) f b=some u:=a;rw [wm] at a;refine zm (zy (j5 rfl rfl) (z8 (zz (zx rfl a (fun a=>?_) (fun a=>?_)))));refine qa ?_;obtain⟨p,c,a⟩:=zo a
 refine qj (γ:=(List Int)×Value×Frag) (rs [4,6,11,19]) (fun g=>[(4,g.2.1)]) (fun g=>[g.2.2]++A) (fun g R=>p=g.1∧ORep (zu .i64) R g.2.2 g.2.1 g.1∧True) ?_ ?_;refine qb (zm (ze (vi b) (zh (vi b) (qp (ze d (ze (vi b) ?_))))));obtain⟨am,K,c⟩:=zo c
 refine z6f rfl rfl rfl ((s.mono (t.trans k)) _ (RH.le.refl _) b _ _ (q9.2 rfl) K) fun an ao e L=>?_;obtain rfl:=mq.1 L;refine z8 (zx rfl c (fun c=>?_) (fun c=>?_))
 refine zw (ze n (ze (vi b) (bg (T:=(zu .i64)) (X:=([b]:List Int)) (ps:=[(0,(vi b))]) (css:=[[(vi b)]]) rfl underlying33 zo3 rfl rfl (jh ⟨rfl,trivial⟩) rfl rfl (by decide) fun M ap q O=>?_)));refine kg (i:=0) rfl O fun P l Q=>?_
 have S:VRep (tSl true (zu .i64)) P M ([b]:List Int):=(fo Q q);obtain⟨y,c⟩:=zb c;refine z10 (i:=0) (X:=f) (Y:=([b]:List Int)) rfl underlying33 zo3 rfl rfl rfl (o.mono (e.trans l)) (jk (Sub.v (B:=(tSl false (zu .i64))) (ui Sub.refl (fun _=>rfl)) S)) y.1 y.2 fun z U V=>?_;refine zh z (z8 ?_)
 exact⟨dkt,(e.trans l),jc,((f++([b]:List Int)),z,U),⟨rfl,trivial⟩,prm,(Option.some.inj c).symm,V,trivial⟩;refine qa ?_;exact⟨dkt,e,jc,(f,n,w),⟨rfl,trivial⟩,prm,(Option.some.inj c).symm,(o.mono e),trivial⟩;rintro⟨p,W,Z⟩ aq ar C ⟨rfl,aa,_⟩;refine zw ?_;obtain⟨ab,a⟩:=zb a
 refine zy (qi rfl rfl ab) (ze (vi (b+1)) (z8 ?_));exact⟨dkt,C,jc,(j,p,b+1,W,Z),Nat.lt_succ_self _,⟨rfl,rfl,trivial⟩,prm,a,aa,trivial⟩;refine ja ?_;exact⟨dkt,k,jc,(f,n,w),⟨rfl,trivial⟩,prm,(Option.some.inj a).symm,o,trivial⟩;rintro⟨u,F,au⟩ av R7 ac ⟨rfl,ad,_⟩
 refine zm (ze F (zh F (z8 (lm (i:=0) rfl ad fun ae E af=>?_))));have ag:VRep (tSl false (zu .i64)) ae F u:=(z6k af);refine qd ?_;obtain rfl:=Option.some.inj h;refine qc (D:=[]) (J:=[]) (rs:=[.tmp 4]) (vs:=[F]) ((t.trans ac).trans E) rfl rfl ⟨rfl,trivial⟩ ?_;exact⟨rfl,ag⟩
theorem z5x{N:Nat}{R:RH}{x:Sa}{I:Value}(s:VRep (zn false false) R I x){rows:(List Int)}{f:Value}(p:VRep (tSl false (zu .i64)) R f rows){r:(List Int)}(l:au N x rows=some r):CallP prog 25 #[I,f] R (fun v R'=>VRep (tSl true (zu .i64)) R' v r):=by
 refine qg (args:=[I,f]) func25 rfl rfl fun A=>?_;rw [au] at l;refine zm (vv (T:=(zn false false)) rfl rfl rfl s fun v1 R3 o h5 h2=>?_);refine zh vs0 (qp (zy (jq z1o rfl rfl h5 (s.mono o)) ?_));obtain⟨y6,c7,l⟩:=zo l
 refine j3 rfl zjs rfl (nz (s.mono o) c7) fun v8 aD k h9=>?_;obtain rfl:=h9;obtain⟨y,l⟩:=zb l;refine zbl (T:=(zu .i64)) (m:=y6.toNat) (c:=y6.toNat) rfl underlying33 zo3 (zi rfl y.1) (zi rfl y.1) (Nat.le_refl _) (zdb y) (zdj y) fun d ac K ad=>?_;refine zh d (z8 ?_)
 obtain⟨t,b,l⟩:=zo l;refine qj (γ:=(List Int)×Frag) (rs [7,8,9,10,13,35]) (fun g=>[]) (fun g=>[g.2]++A) (fun g R=>t=g.1∧ORep (zu .i64) R g.2 d g.1∧capOf d=g.1.length∧True) ?_ ?_
 refine zm (ze f (zy (qm rfl underlying33 rfl (jk (p.mono (o.trans k)))) (ze (vi 0) (z8 (qb (qy (γ:=Nat×Int×(List Int)×Frag) (rs [7,8,9,10,15,35]) (fun g=>[(15,(vi g.2.1))]) (fun g=>[g.2.2.2]++A) (fun g R=>vg N x rows g.1 g.2.1 g.2.2.1=some t∧ORep (zu .i64) R g.2.2.2 d g.2.2.1∧capOf d=g.2.2.1.length∧True) (fun g=>g.1) (N,0,(mk y6 (0:Int)),ac) prm ⟨b,ad,(K.trans List.length_replicate.symm),trivial⟩ ?_))))))
 clear b;rintro⟨z,q,L,P⟩ aF aG n ⟨b,Q,E,_⟩;rcases z with _|z;exact qo b;replace b:vg N x rows (z+1) q L=some t:=b;rw [vg] at b;refine zm (zy (j5 rfl rfl) (z8 (zz (zx rfl b (fun b=>?_) (fun b=>?_)))));refine qa ?_;obtain⟨u,a,b⟩:=zo b
 refine qj (γ:=(List Int)×Frag) (rs [7,8,9,10,17,34]) (fun g=>[]) (fun g=>[g.2]++A) (fun g R=>u=g.1∧ORep (zu .i64) R g.2 d g.1∧capOf d=g.1.length∧True) ?_ ?_;refine qb (zm ?_);obtain⟨S,a⟩:=zb a
 refine jy (i:=q.toNat) rfl l5 rfl (jk (p.mono ((o.trans k).trans n))) (zi rfl S.1) (q8 S) fun aH ae=>?_;refine qz rfl ty3 rfl ae fun aI af=>?_;obtain rfl:=q9.1 af
 refine zh (vi (ix rows q)) (qp (zy (jq z1o rfl rfl (h5.mono (k.trans n)) (s.mono ((o.trans k).trans n))) (ze (vi (ix rows q)) ?_)));obtain⟨h,ag,a⟩:=zo a;refine j3 rfl zi4 rfl (p9 (s.mono ((o.trans k).trans n)) ag) fun aJ aK F U=>?_
 refine zy (qm rfl underlying33 rfl (jk U)) (ze (vi 0) (z8 (qb (qy (γ:=Nat×Int×(List Int)×Frag) (rs [9,10,23,34]) (fun g=>[(23,(vi g.2.1))]) (fun g=>[g.2.2.2]++A) (fun g R=>wz N h g.1 g.2.1 g.2.2.1=some u∧ORep (zu .i64) R g.2.2.2 d g.2.2.1∧capOf d=g.2.2.1.length∧True) (fun g=>g.1) (N,0,L,P) prm ⟨a,(Q.mono F),E,trivial⟩ ?_))))
 clear a;rintro⟨B,e,C,ah⟩ aL aM G ⟨a,w,H,_⟩;rcases B with _|B;exact qo a;replace a:wz N h (B+1) e C=some u:=a;rw [wz] at a;refine zm (zy (j5 rfl rfl) (z8 (zz (zx rfl a (fun a=>?_) (fun a=>?_)))));refine qa (zz (qb (zm ?_)))
 obtain⟨V,a⟩:=zb a;refine jy (i:=e.toNat) rfl l5 rfl (jk (U.mono G)) (zi rfl V.1) (q8 V) fun aN ai=>?_;refine qz rfl ty3 rfl ai fun aO aj=>?_;obtain rfl:=q9.1 aj;refine zh (vi (ix h e)) (z8 (zw (ze d (ze (vi (ix h e)) ?_))));obtain⟨M,a⟩:=zb a
 refine z1r (i:=(ix h e).toNat) rfl l5 rfl w (zi rfl M.1) (q8 M) fun aP ak=>?_;refine z8j (i:=(ix h e).toNat) (j:=0) rfl ty3 w rfl rfl ak (q8 M) fun aQ al=>?_;obtain rfl:=q9.1 al;obtain⟨am,a⟩:=zb a;refine zy (qi rfl rfl am) ?_;obtain⟨O,a⟩:=zb a
 refine z1r (i:=(ix h e).toNat) rfl l5 rfl w (zi rfl O.1) (q8 O) fun aR an=>?_;refine z4p (i:=(ix h e).toNat) (j:=0) ty3 w rfl rfl an (q8 O) rfl (q9.2 rfl) fun ao ap=>?_;refine z8 (zw ?_);obtain⟨aq,a⟩:=zb a;refine zy (qi rfl rfl aq) (ze (vi (e+1)) (z8 ?_))
 exact⟨dkt,(RH.le.refl _),jc,(B,e+1,(up C (ix h e) ((ix C (ix h e))+1)),ao),Nat.lt_succ_self _,⟨rfl,trivial⟩,prm,a,ap,(H.trans List.length_set.symm),trivial⟩;refine ja ?_;exact⟨dkt,(F.trans G),jc,(C,ah),trivial,prm,(Option.some.inj a).symm,w,H,trivial⟩;rintro⟨u,ar⟩ aS aT W ⟨rfl,av,X,_⟩;refine zw ?_
 obtain⟨aw,b⟩:=zb b;refine zy (qi rfl rfl aw) (ze (vi (q+1)) (z8 ?_));exact⟨dkt,W,jc,(z,q+1,u,ar),Nat.lt_succ_self _,⟨rfl,trivial⟩,prm,b,av,X,trivial⟩;refine ja ?_;exact⟨dkt,n,jc,(L,P),trivial,prm,(Option.some.inj b).symm,Q,E,trivial⟩;rintro⟨t,aU⟩ aV aW Y ⟨rfl,ax,Z,_⟩
 refine zm (ze d (zh d (z8 (lm (i:=0) rfl ax fun ay aa az=>?_))));have aA:VRep (tSl true (zu .i64)) ay d t:=(fo az Z);refine qd ?_;obtain rfl:=Option.some.inj l;refine qc (D:=[]) (J:=[]) (rs:=[.tmp 4]) (vs:=[d]) (((o.trans k).trans Y).trans aa) rfl rfl ⟨rfl,trivial⟩ ?_;exact⟨rfl,aA⟩
theorem zkl:Enters prog 26:=enters_of func26 rfl (by kernel_rfl)
theorem ru{N:Nat}{R:RH}{x:Sa}{b:Value}(c:VRep (zn false false) R b x){row:Int}{r:Bool}(a:yc N x row=some r):CallP prog 27 #[b,(vi row)] R (fun v R'=>v=(.bool r)):=by
 refine qg (args:=[b,(vi row)]) func27 rfl rfl fun A=>?_;rw [yc] at a;refine zm (vv (T:=(zn false false)) rfl rfl rfl c fun k l d g m=>?_);refine zh (.bool false) (qp (zy (jq z1o rfl rfl g (c.mono d)) (ze (vi row) ?_)));obtain⟨f,h,a⟩:=zo a
 refine j3 rfl zi4 rfl (p9 (c.mono d) h) fun n i e j=>?_;refine zy (qm rfl underlying33 rfl (jk j)) (zy (oq rfl rfl) (zh (.bool (decide (0<(↑f.length:Int)))) (z8 (qd ?_))));obtain rfl:=Option.some.inj a
 refine qc (D:=[]) (J:=[]) (rs:=[.tmp 4]) (vs:=[(.bool (decide (0<(↑f.length:Int))))]) (d.trans e) rfl rfl ⟨rfl,trivial⟩ ?_;exact⟨rfl,rfl⟩
theorem zl3:Enters prog 27:=enters_of func27 rfl (by kernel_rfl)
theorem zmt:Enters prog 25:=enters_of func25 rfl (by kernel_rfl)
theorem mixed:prog.follows .mixedOrders=true:=by kernel_rfl
theorem z5n{N:Nat}{R:RH}{x:Sa}{b:Value}(f:VRep (zn false false) R b x){r:(List Int)×Int}(d:z05 N x=some r):CallP prog 8 #[b] R (fun v R'=> ∃ q,v= .tuple #[q,(vi r.2)]∧VRep (tSl true (zu .i64)) R' q r.1):=by
 refine qg (args:=[b]) func8 rfl rfl fun A=>?_;rw [z05] at d;refine zm (vv (T:=(zn false false)) rfl rfl rfl f fun v1 R3 e p h2=>?_);refine zh vs0 (zh (vi 0) (z8 (zz (zm (zy (jq z1o rfl rfl p (f.mono e)) ?_)))));obtain⟨j,O,d⟩:=zo d
 refine j3 rfl zif rfl (ll (f.mono e) O) fun v8 P a Q=>?_;obtain rfl:=Q;refine zh (vi j) (qp (ze (vi j) (zy (uq rfl rfl) (z8 (zx rfl d (fun d=>?_) (fun d=>?_))))));refine zm (ze (vi j) (zh vs0 (zh (vi j) (z8 (qd ?_)))));obtain rfl:=Option.some.inj d
 refine qc (D:=[]) (J:=[]) (rs:=[.tmp 2,.tmp 3]) (vs:=[vs0,(vi j)]) (e.trans a) rfl rfl ⟨rfl,rfl,trivial⟩ ?_;exact⟨rfl,⟨vs0,rfl,z0p⟩⟩;refine qa (zz ?_);obtain⟨s,t,d⟩:=zo d;obtain⟨k,u,d⟩:=zo d
 refine bf 8 [] [phX b,phX b,phX b,phX (.func (.func 27) #[b] #[]),phR (tSl false (zu .i64)) s,phR (tSl true (zu .i64)) k,phR (tSl true (zu .i64)) k,phX (vi 0)] mixed (by kernel_rfl) (vz ⟨zf,zf,zf,zf,z2d,z2d,z2d,zf,trivial⟩) ⟨?_,?_,?_,?_,?_,?_,?_,?_,trivial⟩ fun S m=>?_;intro l U c g L
 exact zg rfl rfl rfl (zk (jq z1o rfl (g 1 rfl) ((p.mono a).mono c) ((f.mono (e.trans a)).mono c)));intro l V c g L;exact zg rfl rfl rfl (zk (jq z1o rfl (g 1 rfl) ((p.mono a).mono c) ((f.mono (e.trans a)).mono c)));intro l W c g L
 exact zg rfl rfl rfl (zk (jq z1o rfl (g 1 rfl) ((p.mono a).mono c) ((f.mono (e.trans a)).mono c)));rintro l X c g ⟨i,_⟩;have w:l 12=b:=i rfl;exact zg rfl rfl rfl (zk (ah (fs:=[b]) (cs:=[]) (by simp only [List.map,ev,w]<;>rfl) rfl));rintro l Y c g ⟨i,n,_⟩;have z:l 11=b:=i rfl
 have B:l 13=(.func (.func 27) #[b] #[]):=n rfl
 exact zg rfl rfl rfl (kv (vs:=[b,(.func (.func 27) #[b] #[])]) zkl (by simp only [List.map,ev,z,B]<;>rfl) (z0m ((f.mono (e.trans a)).mono c) ((za2 (fs:=[b]) zl3 fun R1 Z z0 q y k0 hy=>by obtain rfl:=q9.1 k0;exact CallP.mono (ru ((f.mono (e.trans a)).mono Z) hy) fun v R2 _ hv=>mq.2 hv).mono c) t) (fun _ _ h=>h))
 rintro l ad c g ⟨i,n,M,_⟩;have C:l 10=b:=i rfl;exact zg rfl rfl rfl (kv (vs:=[b,(l 14)]) zmt (by simp only [List.map,ev,C]<;>rfl) (z5x ((f.mono (e.trans a)).mono c) (n rfl) u) (fun _ _ h=>h));rintro l ae c g ⟨i,n,M,d3,d4,d5,d6,d7,_⟩;exact zg rfl rfl rfl (zj9 (ai rfl) (i rfl))
 rintro l am c g ⟨i,n,M,d3,d4,d5,d6,d7,_⟩;exact zg rfl rfl rfl (zk (ai rfl));intro an E ao F ap G aq H ar au av aw o I ax K;obtain rfl:=Eq.symm E;obtain rfl:=Eq.symm F;obtain rfl:=Eq.symm G;obtain rfl:=Eq.symm H;obtain rfl:=Eq.symm K;refine z8 (qd ?_);obtain rfl:=Option.some.inj d
 refine qc (D:=[]) (J:=[]) (rs:=[.tmp 2,.tmp 3]) (vs:=[o,(vi 0)]) ((e.trans a).trans m) rfl rfl ⟨rfl,rfl,trivial⟩ ?_;exact⟨rfl,⟨o,rfl,I⟩⟩
theorem en8:Enters prog 8:=enters_of func8 rfl (by kernel_rfl)
theorem z6o{N:Nat}{R:RH}{x:Sa}{f:Value}(l:VRep (zn false false) R f x){r:Int}(e:si N x=some r):CallP prog 9 #[f] R (fun v R'=>v=(vi r)):=by
 refine qg (args:=[f]) func9 rfl rfl fun A=>?_;rw [si] at e;refine zm (vv (T:=(zn false false)) rfl rfl rfl l fun L M m O y=>?_);refine zh (vi 0) (qp (zh (vi 0) (z8 ?_)));obtain⟨h,a,e⟩:=zo e
 refine qj (γ:=Int) (rs [3,20]) (fun g=>[(3,(vi g))]) (fun g=>[]++A) (fun g R=>h=g∧True) ?_ ?_
 refine zm (zh (vi 0) (z8 (qb (qy (γ:=Nat×Int×Int) (rs [3,20]) (fun g=>[(3,(vi g.2.1)),(4,(vi g.2.2))]) (fun g=>[]++A) (fun g R=>uw N x g.1 g.2.1 g.2.2=some h∧True) (fun g=>g.1) (N,0,0) prm ⟨a,trivial⟩ ?_))));clear a;rintro⟨k,c,b⟩ z B d ⟨a,_⟩;rcases k with _|k;exact qo a
 replace a:uw N x (k+1) c b=some h:=a;rw [uw] at a;refine zz (zm (ze (vi b) (xn rfl ry ji rfl (y.mono d) fun C n=>?_)));refine qz rfl z7n rfl n fun E o=>?_
 refine zy (qm rfl underlying25 rfl (jk o)) (zy (j5 rfl rfl) (z8 (zx rfl a (fun a=>?_) (fun a=>?_))));refine qa (zz (qb (zw (ze (vi c) (xn rfl ry ji rfl (y.mono d) fun F p=>?_)))));refine qz rfl z7n rfl p fun G q=>?_;refine ze (vi b) ?_
 obtain⟨j,a⟩:=zb a;refine jy (i:=b.toNat) rfl z7q rfl (jk q) (zi rfl j.1) (q8 j) fun H s=>?_;refine qz rfl z7s rfl s fun I t=>?_
 refine zy (qm rfl underlying33 rfl (jk t)) (zy (zc3 rfl underlying3 rfl rfl) (zh (vi (max c (↑(ix x.fB b).length:Int))) (z8 (zw (ze (vi b) ?_)))));obtain⟨u,a⟩:=zb a;refine zy (qi rfl rfl u) (zh (vi (b+1)) (z8 ?_))
 exact⟨dkt,(RH.le.refl _),jc,(k,max c (↑(ix x.fB b).length:Int),b+1),Nat.lt_succ_self _,⟨rfl,rfl,trivial⟩,prm,a,trivial⟩;refine ja ?_;exact⟨dkt,d,jc,c,⟨rfl,trivial⟩,prm,(Option.some.inj a).symm,trivial⟩;rintro h K P w ⟨rfl,_⟩;refine zm (ze (vi h) (zh (vi h) (z8 (qd ?_))));obtain rfl:=Option.some.inj e
 refine qc (D:=[]) (J:=[]) (rs:=[.tmp 2]) (vs:=[(vi h)]) (m.trans w) rfl rfl ⟨rfl,trivial⟩ ?_;exact⟨rfl,rfl⟩
theorem en9:Enters prog 9:=enters_of func9 rfl (by kernel_rfl)
theorem z16{N:Nat}{R:RH}{x:Sa}{b:Value}(e:VRep (zn false false) R b x){row:Int}{column:Int}{r:Bool}(a:mf N x row column=some r):CallP prog 28 #[b,(vi row),(vi column)] R (fun v R'=>v=(.bool r)):=by
 refine qg (args:=[b,(vi row),(vi column)]) func28 rfl rfl fun A=>?_;rw [mf] at a;refine zm (vv (T:=(zn false false)) rfl rfl rfl e fun t u f w l=>?_);refine zh (.bool false) (qp (xn rfl ry ji rfl l fun y m=>?_));refine qz rfl z7n rfl m fun z n=>?_
 refine ze (vi row) ?_;obtain⟨c,a⟩:=zb a;refine jy (i:=row.toNat) rfl z7q rfl (jk n) (zi rfl c.1) (q8 c) fun o g=>?_;refine qz rfl z7s rfl g fun p h=>?_;refine ze (vi column) ?_;obtain⟨d,a⟩:=zb a
 refine jy (i:=column.toNat) rfl l5 rfl (jk h) (zi rfl d.1) (q8 d) fun q j=>?_;refine qz rfl ty3 rfl j fun s k=>?_;obtain rfl:=q9.1 k;refine zy (nu rfl rfl) (zh (.bool (decide (0≤(ix (ix x.fB row) column)))) (z8 (qd ?_)));obtain rfl:=Option.some.inj a
 refine qc (D:=[]) (J:=[]) (rs:=[.tmp 6]) (vs:=[(.bool (decide (0≤(ix (ix x.fB row) column))))]) f rfl rfl ⟨rfl,trivial⟩ ?_;exact⟨rfl,rfl⟩
theorem zlu:Enters prog 28:=enters_of func28 rfl (by kernel_rfl)
theorem z3a{N:Nat}{R:RH}{x:Sa}{j:Value}(k:VRep (zn false false) R j x){row:Int}{r:Bool}(c:ed N x row=some r):CallP prog 10 #[j,(vi row)] R (fun v R'=>v=(.bool r)):=by
 refine qg (args:=[j,(vi row)]) func10 rfl rfl fun A=>?_;rw [ed] at c;refine zm (vv (T:=(zn false false)) rfl rfl rfl k fun O P e y z=>?_);refine zh (.bool false) (z8 ?_);obtain⟨m,a,c⟩:=zo c
 refine qj (γ:=Unit) (rs [4,20]) (fun g=>[]) (fun g=>[]++A) (fun g R=>m=Ex.go g∧True) ?_ ?_;refine zm (zh (vi 0) (z8 (qb (qy (γ:=Nat×Int) (rs [4,20]) (fun g=>[(5,(vi g.2))]) (fun g=>[]++A) (fun g R=>uk N x row g.1 g.2=some m∧True) (fun g=>g.1) (N,0) prm ⟨a,trivial⟩ ?_))));clear a
 rintro⟨f,d⟩ B C b ⟨a,_⟩;rcases f with _|f;exact qo a;replace a:uk N x row (f+1) d=some m:=a;rw [uk] at a;refine zz (zm (ze (vi d) (xn rfl ry ji rfl (z.mono b) fun E n=>?_)));refine qz rfl z7n rfl n fun F o=>?_
 refine ze (vi row) ?_;obtain⟨l,a⟩:=zb a;refine jy (i:=row.toNat) rfl z7q rfl (jk o) (zi rfl l.1) (q8 l) fun G p=>?_;refine qz rfl z7s rfl p fun H q=>?_;refine zy (qm rfl underlying33 rfl (jk q)) (zy (j5 rfl rfl) (z8 (zx rfl a (fun a=>?_) (fun a=>?_))))
 refine qa (zz (qb (zm (zy (jq z1o rfl rfl (y.mono b) (k.mono (e.trans b))) (ze (vi row) (ze (vi d) ?_))))));obtain⟨I,s,a⟩:=zo a;refine j3 rfl zlu rfl (z16 (k.mono (e.trans b)) s) fun K L h t=>?_;obtain rfl:=t;refine z8 (zx rfl a (fun a=>?_) (fun a=>?_))
 refine zm (zh (.bool true) (z8 (qd ?_)));replace c:=ic a c;obtain rfl:=Option.some.inj c;refine qc (D:=[]) (J:=[]) (rs:=[.tmp 4]) (vs:=[(.bool true)]) ((e.trans b).trans h) rfl rfl ⟨rfl,trivial⟩ ?_;exact⟨rfl,rfl⟩;refine qa (zw (ze (vi d) ?_));obtain⟨u,a⟩:=zb a
 refine zy (qi rfl rfl u) (zh (vi (d+1)) (z8 ?_));exact⟨dkt,h,jc,(f,d+1),Nat.lt_succ_self _,⟨rfl,trivial⟩,prm,a,trivial⟩;refine ja ?_;exact⟨dkt,b,jc,(),trivial,prm,(Option.some.inj a).symm,trivial⟩;rintro Q M S w ⟨rfl,_⟩;replace c:=lv c;refine zm (zh (.bool false) (z8 (qd ?_)))
 obtain rfl:=Option.some.inj c;refine qc (D:=[]) (J:=[]) (rs:=[.tmp 4]) (vs:=[(.bool false)]) (e.trans w) rfl rfl ⟨rfl,trivial⟩ ?_;exact⟨rfl,rfl⟩
theorem zmc:Enters prog 10:=enters_of func10 rfl (by kernel_rfl)
theorem za3: ∀ w,∃ z,(zeroValue 3).run prog w= .ok z w∧z.cells=([.int .i64 0]:List Value).toArray:=fun w=>⟨(vi 0),by kernel_rfl,rfl⟩
theorem sz3: ∀ w,(sizeOf 3).run prog w= .ok 1 w:=fun w=>by kernel_rfl
theorem z2u{N:Nat}{R:RH}{s:(List Int)}{c:Value}(k:VRep (tSl false (zu .i64)) R c s){f:Int→Option Bool}{e:Value}(n:FOk1 prog R e (zu .i64) z2n f){r:Int}(b:fe N s f=some r):CallP prog 48 #[c,e] R (fun v R'=>v=(vi r)):=by
 refine qg (args:=[c,e]) func48 rfl rfl fun A=>?_;rw [fe] at b;refine zm (zh (vi 0) (z8 ?_));obtain⟨o,a,b⟩:=zo b;refine qj (γ:=Unit) (rs [4,19]) (fun g=>[]) (fun g=>[]++A) (fun g R=>o=Ex.go g∧True) ?_ ?_
 refine zm (ze c (zy (qm rfl underlying33 rfl (jk k)) (ze (vi 0) (z8 (qb (qy (γ:=Nat×Int) (rs [4,6,8,19]) (fun g=>[(8,(vi g.2))]) (fun g=>[]++A) (fun g R=>wh N s f g.1 g.2=some o∧True) (fun g=>g.1) (N,0) prm ⟨a,trivial⟩ ?_))))));clear a;rintro⟨m,d⟩ y H h ⟨a,_⟩;rcases m with _|m
 exact qo a;replace a:wh N s f (m+1) d=some o:=a;rw [wh] at a;refine zm (zy (j5 rfl rfl) (z8 (zz (zx rfl a (fun a=>?_) (fun a=>?_)))));refine qa (zz (qb (zm (ze (vi d) (zh (vi d) (qp (ze e (ze c (ze (vi d) ?_)))))))))
 obtain⟨l,a⟩:=zb a;refine jy (i:=d.toNat) rfl l5 rfl (jk (k.mono h)) (zi rfl l.1) (q8 l) fun z p=>?_;refine qz rfl ty3 rfl p fun B q=>?_;obtain rfl:=q9.1 q;obtain⟨C,t,a⟩:=zo a;refine z6f rfl rfl rfl ((n.mono h) _ (RH.le.refl _) (ix s d) _ _ (q9.2 rfl) t) fun E F j u=>?_
 obtain rfl:=mq.1 u;refine z8 (zx rfl a (fun a=>?_) (fun a=>?_));refine zm (ze (vi d) (zh (vi d) (z8 (qd ?_))));replace b:=ic a b;obtain rfl:=Option.some.inj b;refine qc (D:=[]) (J:=[]) (rs:=[.tmp 4]) (vs:=[(vi d)]) (h.trans j) rfl rfl ⟨rfl,trivial⟩ ?_;exact⟨rfl,rfl⟩
 refine qa (zw ?_);obtain⟨w,a⟩:=zb a;refine zy (qi rfl rfl w) (ze (vi (d+1)) (z8 ?_));exact⟨dkt,j,jc,(m,d+1),Nat.lt_succ_self _,⟨rfl,trivial⟩,prm,a,trivial⟩;refine ja ?_;exact⟨dkt,h,jc,(),trivial,prm,(Option.some.inj a).symm,trivial⟩;rintro I G K x ⟨rfl,_⟩;replace b:=lv b
 refine zm (zh (vi (-1)) (z8 (qd ?_)));obtain rfl:=Option.some.inj b;refine qc (D:=[]) (J:=[]) (rs:=[.tmp 4]) (vs:=[(vi (-1))]) x rfl rfl ⟨rfl,trivial⟩ ?_;exact⟨rfl,rfl⟩
theorem zmn:Enters prog 48:=enters_of func48 rfl (by kernel_rfl)
theorem z1u{N:Nat}{R:RH}{s:(List Int)}{a:Value}(d:VRep (tSl false (zu .i64)) R a s){f:Int→Option Bool}{b:Value}(e:FOk1 prog R b (zu .i64) z2n f){r:Bool}(c:xh N s f=some r):CallP prog 30 #[a,b] R (fun v R'=>v=(.bool r)):=by
 refine qg (args:=[a,b]) func30 rfl rfl fun A=>?_;rw [xh] at c;refine zm (zh (.bool false) (qp (ze a (ze b ?_))));obtain⟨h,i,c⟩:=zo c;refine j3 rfl zmn rfl (z2u d e i) fun k l g j=>?_;obtain rfl:=j
 refine zy (nu rfl rfl) (zh (.bool (decide (0≤h))) (z8 (qd ?_)));obtain rfl:=Option.some.inj c;refine qc (D:=[]) (J:=[]) (rs:=[.tmp 4]) (vs:=[(.bool (decide (0≤h)))]) g rfl rfl ⟨rfl,trivial⟩ ?_;exact⟨rfl,rfl⟩
theorem zn3:Enters prog 30:=enters_of func30 rfl (by kernel_rfl)
theorem z92{N:Nat}{R:RH}{c:Int}{p0_:Sa}{a:Value}(e:PRep (zn false false) R a p0_){p1_:Int}{b:Value}(f:PRep (zu .i64) R b p1_){r:Bool}(d:ak N c p0_ p1_=some r):CallP prog 31 #[(vi c),a,b] R (fun v R'=>v=(.bool r)):=by
 refine qg (args:=[(vi c),a,b]) func31 rfl rfl fun A=>?_;rw [ak] at d;refine zm (zh (.bool false) (qp (qz rfl z1o rfl e fun m i=>?_)));refine qz rfl ty3 rfl f fun n j=>?_;obtain rfl:=q9.1 j;refine ze (vi c) ?_;obtain⟨h,k,d⟩:=zo d
 refine j3 rfl zm3 rfl (z0h i k) fun o p g l=>?_;obtain rfl:=l;refine zh (.bool h) (z8 (qd ?_));obtain rfl:=Option.some.inj d;refine qc (D:=[]) (J:=[]) (rs:=[.tmp 4]) (vs:=[(.bool h)]) g rfl rfl ⟨rfl,trivial⟩ ?_;exact⟨rfl,rfl⟩
theorem zon:Enters prog 31:=enters_of func31 rfl (by kernel_rfl)
theorem z18{N:Nat}{R:RH}{x:Sa}{w:Value}(m:VRep (zn false false) R w x){choice:(List Int)}{c:Value}(h:VRep (tSl false (zu .i64)) R c choice){r:Bool×Int}(d:ib N x choice=some r):CallP prog 12 #[w,c] R (fun v R'=>v= .tuple #[(.bool r.1),(vi r.2)]):=by
 refine qg (args:=[w,c]) func12 rfl rfl fun A=>?_;rw [ib] at d;refine zm (vv (T:=(zn false false)) rfl rfl rfl m fun v1 R3 j h5 h2=>?_);refine zh (.bool false) (zh (vi 0) (z8 (zz (zm (zy (jq z1o rfl rfl h5 (m.mono j)) ?_)))));obtain⟨K,c7,d⟩:=zo d
 refine j3 rfl zif rfl (ll (m.mono j) c7) fun v8 aK b h9=>?_;obtain rfl:=h9;refine zh (vi K) (qp (ze (vi K) (zy (uq rfl rfl) (z8 (zx rfl d (fun d=>?_) (fun d=>?_))))));refine zm (ze (vi K) (zh (.bool false) (zh (vi K) (z8 (qd ?_)))));obtain rfl:=Option.some.inj d
 refine qc (D:=[]) (J:=[]) (rs:=[.tmp 4,.tmp 5]) (vs:=[(.bool false),(vi K)]) (j.trans b) rfl rfl ⟨rfl,rfl,trivial⟩ ?_;exact⟨rfl,rfl⟩;refine qa (zm (zy (jq z1o rfl rfl (h5.mono b) (m.mono (j.trans b))) ?_));obtain⟨z,ad,d⟩:=zo d
 refine j3 rfl zjs rfl (nz (m.mono (j.trans b)) ad) fun aM aN e ae=>?_;obtain rfl:=ae;refine zh (vi z) (z8 ?_);obtain⟨G,a,d⟩:=zo d;refine qj (γ:=Unit) (rs [4,6,8,10,19,47]) (fun g=>[]) (fun g=>[]++A) (fun g R=>G=Ex.go g∧True) ?_ ?_
 refine zm (ze c (zy (qm rfl underlying33 rfl (jk (h.mono ((j.trans b).trans e)))) (ze (vi 0) (z8 (qb (qy (γ:=Nat×Int) (rs [4,6,8,10,21,47]) (fun g=>[(21,(vi g.2))]) (fun g=>[]++A) (fun g R=>xz N choice z g.1 g.2=some G∧True) (fun g=>g.1) (N,0) prm ⟨a,trivial⟩ ?_))))));clear a
 rintro⟨E,f⟩ aO aP t ⟨a,_⟩;rcases E with _|E;exact qo a;replace a:xz N choice z (E+1) f=some G:=a;rw [xz] at a;refine zm (zy (j5 rfl rfl) (z8 (zz (zx rfl a (fun a=>?_) (fun a=>?_)))));refine qa (zz (qb (zm (ze (vi f) ?_))))
 obtain⟨L,a⟩:=zb a;refine jy (i:=f.toNat) rfl l5 rfl (jk (h.mono (((j.trans b).trans e).trans t))) (zi rfl L.1) (q8 L) fun aQ af=>?_;refine qz rfl ty3 rfl af fun aR ag=>?_;obtain rfl:=q9.1 ag
 refine zh (vi f) (zh (vi (ix choice f)) (qp (jl (v:=(vi (ix choice f))) rfl (za rfl) (jl rfl (j5 rfl rfl) (jl (v:=(.bool (decide ((ix choice f)<0)))) rfl (za rfl) (j4 rfl rfl rfl rfl (fun l=>ql (v:=(vi (ix choice f))) (za rfl)) fun aS ai=>?_))))))
 refine j4 rfl rfl rfl rfl (fun l=>ql (v:=(vi z)) (za rfl)) fun aT aj=>?_;refine j4 rfl rfl rfl rfl (fun l=>ql (nu (ai.1 (zq rfl l)) (aj.1 (zq rfl l)))) fun aU ak=>?_
 refine jl rfl (df rfl rfl (fun M=>(ak.1 (zq rfl M)))) (jl (v:=(.bool ((decide ((ix choice f)<0))||(decide (z≤(ix choice f)))))) rfl (za rfl) (j4 rfl rfl rfl rfl (fun l=>ql (v:=(vi f)) (za rfl)) fun aV al=>?_));refine j4 rfl rfl rfl rfl (fun l=>ql (oq (al.1 (zq rfl l)) rfl)) fun aW am=>?_
 refine j4 rfl rfl rfl rfl (fun l=>ql (v:=(.bool (decide (0<f)))) (za (am.1 (zq rfl l)))) fun aX n=>?_;refine ze9 rfl rfl rfl n (fun q l=>ql (v:=(vi (ix choice f))) (za rfl)) fun aY an=>?_;refine ze9 rfl rfl rfl n (fun q l=>ql (v:=c) (za rfl)) fun aZ ao=>?_
 refine ze9 rfl rfl rfl n (fun q l=>ql (v:=(vi f)) (za rfl)) fun a0 ap=>?_;obtain⟨aq,a⟩:=zb a;refine ze9 rfl rfl rfl n (fun q l=>ql (ko (ap.1 (zq q l)) rfl (aq (zq q l)))) fun a1 ar=>?_;obtain⟨O,a⟩:=zb a
 refine ze9 rfl rfl rfl n (fun q l=>z0x (i:=(f-1).toNat) l5 (ao.1 (zq q l)) (jk (h.mono (((j.trans b).trans e).trans t))) (zi (ar.1 (zq q l)) (O (zq q l)).1) (q8 (O (zq q l)))) fun a2 au=>?_;refine ze9 rfl rfl rfl n (fun q l=>ql (z0q (nk ty3 rfl (au.1 (zq q l))))) fun a3 av=>?_
 refine ze9 rfl rfl rfl n (fun q l=>ql (z3u (an.1 (zq q l)) (av.1 (zq q l)))) fun a4 aw=>?_;refine j4 rfl rfl rfl rfl (fun l=>ql (pq (n.1 (zq rfl l)) (fun M=>(aw.1 (zq (zq rfl l) M))) rfl)) fun a5 ax=>?_;refine jl rfl (df rfl rfl (fun M=>(ax.1 (zq rfl M)))) (z8 (zx rfl a (fun a=>?_) (fun a=>?_)))
 refine zm (zh (.bool false) (zh (vi 1) (z8 (qd ?_))));replace d:=ic a d;obtain rfl:=Option.some.inj d;refine qc (D:=[]) (J:=[]) (rs:=[.tmp 4,.tmp 5]) (vs:=[(.bool false),(vi 1)]) (((j.trans b).trans e).trans t) rfl rfl ⟨rfl,rfl,trivial⟩ ?_;exact⟨rfl,rfl⟩;refine qa (zw ?_);obtain⟨ay,a⟩:=zb a
 refine zy (qi rfl rfl ay) (ze (vi (f+1)) (z8 ?_));exact⟨dkt,(RH.le.refl _),jc,(E,f+1),Nat.lt_succ_self _,⟨rfl,trivial⟩,prm,a,trivial⟩;refine ja ?_;exact⟨dkt,t,jc,(),trivial,prm,(Option.some.inj a).symm,trivial⟩;rintro a6 a7 a8 k ⟨rfl,_⟩;replace d:=lv d;obtain⟨H,a,d⟩:=zo d
 refine qj (γ:=Unit) (rs [4,6,11,12,47,61]) (fun g=>[]) (fun g=>[]++A) (fun g R=>H=Ex.go g∧True) ?_ ?_
 refine zm (zy (jq z1o rfl rfl (h5.mono ((b.trans e).trans k)) (m.mono (((j.trans b).trans e).trans k))) (zy (jq z1o rfl rfl (h5.mono ((b.trans e).trans k)) (m.mono (((j.trans b).trans e).trans k))) (zy (ah (fs:=[w]) (cs:=[]) rfl rfl) ?_)));obtain⟨B,az,a⟩:=zo a
 refine j3 rfl zkl rfl (z0m (m.mono (((j.trans b).trans e).trans k)) (za2 (fs:=[w]) zl3 fun R1 hq z0 u0 y k0 hy=>by obtain rfl:=q9.1 k0;exact CallP.mono (ru ((m.mono (((j.trans b).trans e).trans k)).mono hq) hy) fun v R2 _ hv=>mq.2 hv) az) fun be bf u P=>?_
 refine zy (qm rfl underlying33 rfl (jk P)) (ze (vi 0) (z8 (qb (qy (γ:=Nat×Int) (rs [4,6,11,12,52,61]) (fun g=>[(52,(vi g.2))]) (fun g=>[]++A) (fun g R=>xy N x choice B g.1 g.2=some H∧True) (fun g=>g.1) (N,0) prm ⟨a,trivial⟩ ?_))));clear a;rintro⟨F,s⟩ aD bg o ⟨a,_⟩
 rcases F with _|F;exact qo a;replace a:xy N x choice B (F+1) s=some H:=a;rw [xy] at a;refine zm (zy (j5 rfl rfl) (z8 (zz (zx rfl a (fun a=>?_) (fun a=>?_)))));refine qa (zz (qb (zm ?_)));obtain⟨Q,a⟩:=zb a
 refine jy (i:=s.toNat) rfl l5 rfl (jk (P.mono o)) (zi rfl Q.1) (q8 Q) fun bh S=>?_;refine qz rfl ty3 rfl S fun aE U=>?_;obtain rfl:=q9.1 U;refine cz rfl za3 fun p=>?_;refine w9 (i:=0) (vs:=[(vi (ix B s))]) sz3 rfl rfl rfl rfl rfl rfl (jm rfl xu) ?_
 refine qp (ze c (zy (ah (fs:=[]) (cs:=[v1,(.pointer (some ⟨p,0,none⟩))]) rfl rfl) ?_));obtain⟨V,W,a⟩:=zo a
 refine z3v (cs:=[]) (vs:=[c,(.func (.func 31) #[] #[v1,(.pointer (some ⟨p,0,none⟩))])]) (φ:=fun v=>v=(.bool V)) rfl zn3 rfl rfl (fun aF C I=>z1u ((h.mono (((((j.trans b).trans e).trans k).trans u).trans o)).mono C) (z9w (cs:=[v1,(.pointer (some ⟨p,0,none⟩))]) zon fun R1 hq z0 u0 y k0 hy=>by obtain rfl:=q9.1 k0;exact CallP.mono (z92 (((h2.mono ((((b.trans e).trans k).trans u).trans o)).mono C).mono hq) ((z8m (ze7 0 rfl I) rfl).mono hq) hy) fun v R2 _ hv=>mq.2 hv) W) fun aG X=>?_
 obtain rfl:=X;refine zy (dz rfl) (z8 (zx rfl a (fun a=>?_) (fun a=>?_)));refine zm (zh (.bool false) (zh (vi 0) (z8 (qd ?_))));replace d:=ic a d;obtain rfl:=Option.some.inj d
 refine qc (D:=[]) (J:=[box p [(vi (ix B s))] 3]) (rs:=[.tmp 4,.tmp 5]) (vs:=[(.bool false),(vi 0)]) (((((j.trans b).trans e).trans k).trans u).trans o) rfl rfl ⟨rfl,rfl,trivial⟩ ?_;exact⟨rfl,rfl⟩;refine qa (zw ?_);obtain⟨Y,a⟩:=zb a;refine zy (qi rfl rfl Y) (ze (vi (s+1)) (z8 ?_))
 exact⟨dkt,(RH.le.refl _),jc,(F,s+1),Nat.lt_succ_self _,⟨rfl,trivial⟩,⟨[box p [(vi (ix B s))] 3],(List.Perm.refl _)⟩,a,trivial⟩;refine ja ?_;exact⟨dkt,(u.trans o),jc,(),trivial,prm,(Option.some.inj a).symm,trivial⟩;rintro bi aH bj Z ⟨rfl,_⟩;replace d:=lv d
 refine zm (zh (.bool true) (zh (vi 0) (z8 (qd ?_))));obtain rfl:=Option.some.inj d;refine qc (D:=[]) (J:=[]) (rs:=[.tmp 4,.tmp 5]) (vs:=[(.bool true),(vi 0)]) ((((j.trans b).trans e).trans k).trans Z) rfl rfl ⟨rfl,rfl,trivial⟩ ?_;exact⟨rfl,rfl⟩
theorem zkf:Enters prog 12:=enters_of func12 rfl (by kernel_rfl)
theorem z6x{N:Nat}{R:RH}{x:Sa}{s:Value}(w:VRep (zn false false) R s x){y:(List Int)}{m:Value}(G:VRep (tSl false (zu .i64)) R m y){r:Bool}(o:rz N x y=some r):CallP prog 13 #[s,m] R (fun v R'=>v=(.bool r)):=by
 refine qg (args:=[s,m]) func13 rfl rfl fun A=>?_;rw [rz] at o;refine zm (vv (T:=(zn false false)) rfl rfl rfl w fun v1 R3 p h5 h2=>?_);refine zh (.bool false) (z8 ?_);obtain⟨U,b,o⟩:=zo o;refine qj (γ:=Unit) (rs [4,37]) (fun g=>[]) (fun g=>[]++A) (fun g R=>U=Ex.go g∧True) ?_ ?_
 refine zm (zh (vi 0) (z8 (qb (qy (γ:=Nat×Int) (rs [4,37]) (fun g=>[(5,(vi g.2))]) (fun g=>[]++A) (fun g R=>um N x y g.1 g.2=some U∧True) (fun g=>g.1) (N,0) prm ⟨b,trivial⟩ ?_))));clear b;rintro⟨C,j⟩ ak al d ⟨b,_⟩;rcases C with _|C;exact qo b
 replace b:um N x y (C+1) j=some U:=b;rw [um] at b;refine zz (zm (ze (vi j) (xn rfl ry ji rfl (h2.mono d) fun am V=>?_)));refine qz rfl z7n rfl V fun an W=>?_
 refine zy (qm rfl underlying25 rfl (jk W)) (zy (j5 rfl rfl) (z8 (zx rfl b (fun b=>?_) (fun b=>?_))));refine qa (zz (qb (zm (zy (jq z1o rfl rfl (h5.mono d) (w.mono (p.trans d))) (ze (vi j) ?_)))));obtain⟨L,X,b⟩:=zo b
 refine j3 rfl zmc rfl (z3a (w.mono (p.trans d)) X) fun ao ap k Y=>?_;obtain rfl:=Y;refine zy (dz rfl) (zh (.bool (!L)) (z8 ?_));obtain⟨z,c,b⟩:=zo b;refine qj (γ:=Bool) (rs [6,8,19,35]) (fun g=>[(6,(.bool g))]) (fun g=>[]++A) (fun g R=>z=g∧True) ?_ ?_
 refine zm (zh (vi 0) (z8 (qb (qy (γ:=Nat×Bool×Int) (rs [6,8,19,35]) (fun g=>[(6,(.bool g.2.1)),(7,(vi g.2.2))]) (fun g=>[]++A) (fun g R=>wu N x y j g.1 g.2.1 g.2.2=some z∧True) (fun g=>g.1) (N,!L,0) prm ⟨c,trivial⟩ ?_))));clear c;rintro⟨E,a,e⟩ aq ar n ⟨c,_⟩;rcases E with _|E
 exact qo c;replace c:wu N x y j (E+1) a e=some z:=c;rw [wu] at c;refine zz (zm (ze (vi e) (ze m (zy (qm rfl underlying33 rfl (jk (G.mono (((p.trans d).trans k).trans n)))) (zy (j5 rfl rfl) (z8 (zx rfl c (fun c=>?_) (fun c=>?_))))))))
 refine qa (zz (qb ?_));obtain⟨M,c⟩:=zb c;obtain⟨B,Z,c⟩:=zo c
 refine bf 10 [] [phX (.bool a),phX (.bool a),phG (true&&(a==false)) (phX s),phG (true&&(a==false)) (phX (vi j)),phG (true&&(a==false)) (phX m),phG (true&&(a==false)) (phX (vi e)),phG (true&&(a==false)) (phP (zu .i64) (ix y e)),phG (true&&(a==false)) (phX (vi (ix y e))),phG (true&&(a==false)) (phX (.bool (B.getD default))),phX (.bool (a||(B.getD default)))] mixed (by kernel_rfl) (vz ⟨zf,zf,(qh zf),(qh zf),(qh zf),(qh zf),(qh z2k),(qh zf),(qh zf),zf,trivial⟩) ⟨?_,?_,?_,?_,?_,?_,?_,?_,?_,?_,trivial⟩ fun au O=>?_
 intro l av f u hd;exact zg rfl rfl rfl (zk (za (u 6 rfl)));rintro l aw f u ⟨q,_⟩;exact zg rfl rfl rfl (zk (za (q rfl)));rintro l ax f u ⟨q,_⟩
 exact zt (Gj:=true) (Bj:=a) rfl rfl rfl (je (q rfl)) rfl (fun F t=>zk (jq z1o rfl (u 2 rfl) ((h5.mono ((d.trans k).trans n)).mono f) ((w.mono (((p.trans d).trans k).trans n)).mono f)));rintro l ay f u ⟨q,_⟩;exact zt (Gj:=true) (Bj:=a) rfl rfl rfl (je (q rfl)) rfl (fun F t=>zk (za (u 5 rfl)))
 rintro l az f u ⟨q,_⟩;exact zt (Gj:=true) (Bj:=a) rfl rfl rfl (je (q rfl)) rfl (fun F t=>zk (za (u 1 rfl)));rintro l aA f u ⟨q,_⟩;exact zt (Gj:=true) (Bj:=a) rfl rfl rfl (je (q rfl)) rfl (fun F t=>zk (za (u 7 rfl)));rintro l aB f u ⟨q,I,d2,_⟩
 exact zt (Gj:=true) (Bj:=a) rfl rfl rfl (je (d2 rfl)) rfl (fun F t=>z1q (i:=e.toNat) l5 (show l 29=m from(q rfl).1 (zq rfl t)) (jk ((G.mono (((p.trans d).trans k).trans n)).mono f)) (zi (show l 30=(vi e) from(I rfl).1 (zq rfl t)) (M (zq F t)).1) (q8 (M (zq F t))))
 rintro l aC f u ⟨q,I,_⟩;exact zt (Gj:=true) (Bj:=a) rfl rfl rfl (je (I rfl)) rfl (fun F t=>qx (oz ty3 rfl ((q rfl).1 (zq rfl t))) (fun _ _ h=>q9.1 h));rintro l K f u ⟨q,I,d2,d3,d4,_⟩;have P:phG (true&&(a==false)) (phX s) (l 27) K:=q rfl
 have Q:phG (true&&(a==false)) (phX (vi j)) (l 28) K:=I rfl;have S:phG (true&&(a==false)) (phX (vi (ix y e))) (l 32) K:=d2 rfl
 exact zt (Gj:=true) (Bj:=a) rfl rfl rfl (je (d3 rfl)) rfl (fun F t=>kv (vs:=[s,(vi j),(vi (ix y e))]) zlu (by simp only [List.map,ev,(show l 27=s from P.1 (zq rfl t)),(show l 28=(vi j) from Q.1 (zq rfl t)),(show l 32=(vi (ix y e)) from S.1 (zq rfl t))]<;>rfl) ((by have ab:=(mi Z (zq F t));exact z16 ((w.mono (((p.trans d).trans k).trans n)).mono f) ab)) (fun _ _ h=>h))
 rintro l aE f u ⟨q,I,_⟩;exact zg rfl rfl rfl (zk (df (q rfl) rfl (fun hb=>(show l 33=(.bool (B.getD default)) from(I rfl).1 (zq rfl hb)))));intro aG ac aH ad aI aJ aK aL aM aN aO aP aQ aR aS aT aU aV aW ae;obtain rfl:=Eq.symm ac;obtain rfl:=Eq.symm ad;obtain rfl:=Eq.symm ae
 refine zh (.bool (a||(B.getD default))) (z8 (zw (ze (vi e) ?_)));obtain⟨af,c⟩:=zb c;refine zy (qi rfl rfl af) (zh (vi (e+1)) (z8 ?_));exact⟨dkt,O,jc,(E,a||(B.getD default),e+1),Nat.lt_succ_self _,⟨rfl,rfl,trivial⟩,prm,c,trivial⟩;refine ja ?_
 exact⟨dkt,n,jc,a,⟨rfl,trivial⟩,prm,(Option.some.inj c).symm,trivial⟩;rintro z aX aY H ⟨rfl,_⟩;refine zm (ze (.bool z) (zy (dz rfl) (z8 (zx rfl b (fun b=>?_) (fun b=>?_)))));refine zm (zh (.bool false) (z8 (qd ?_)));replace o:=ic b o;obtain rfl:=Option.some.inj o
 refine qc (D:=[]) (J:=[]) (rs:=[.tmp 4]) (vs:=[(.bool false)]) (((p.trans d).trans k).trans H) rfl rfl ⟨rfl,trivial⟩ ?_;exact⟨rfl,rfl⟩;refine qa (zw (ze (vi j) ?_));obtain⟨ag,b⟩:=zb b;refine zy (qi rfl rfl ag) (zh (vi (j+1)) (z8 ?_))
 exact⟨dkt,(k.trans H),jc,(C,j+1),Nat.lt_succ_self _,⟨rfl,trivial⟩,prm,b,trivial⟩;refine ja ?_;exact⟨dkt,d,jc,(),trivial,prm,(Option.some.inj b).symm,trivial⟩;rintro o6 aZ R8 ah ⟨rfl,_⟩;replace o:=lv o;refine zm (zh (.bool true) (z8 (qd ?_)));obtain rfl:=Option.some.inj o
 refine qc (D:=[]) (J:=[]) (rs:=[.tmp 4]) (vs:=[(.bool true)]) (p.trans ah) rfl rfl ⟨rfl,trivial⟩ ?_;exact⟨rfl,rfl⟩
theorem zom:Enters prog 13:=enters_of func13 rfl (by kernel_rfl)
theorem zf3:ZeroOk prog 65 kEdge (⟨(0:Int),(0:Int)⟩:Edge) 16:=by
 obtain⟨i,zv,hi,a,c,d,f⟩:=z2o (P:=prog) (e:=65) (zv:=(.agg #[(vi 0),(vi 0)])) (k:=2) (b:=16) (by kernel_rfl);exact⟨i,zv,hi,a,c,d,fun R=>by subst f;exact⟨_,_,rfl,rfl,rfl⟩⟩
theorem zkj{a:Bool}:ZeroOk prog 45 (tSl a kEdge) ([]:List Edge) 24:=by
 obtain⟨i,zv,hi,c,d,f,g⟩:=z2o (P:=prog) (e:=45) (zv:=vs0) (k:=1) (b:=24) (by kernel_rfl);exact⟨i,zv,hi,c,d,f,fun R=>by subst g;exact(jf rfl z0p)⟩
theorem zhp: ∀ w,∃ z,(zeroValue 48).run prog w= .ok z w∧z.cells=([.int .i64 0,.int .i64 0,.slice none 0 0]:List Value).toArray:=fun w=>⟨(.agg #[(vi 0),(vi 0),vs0]),by kernel_rfl,rfl⟩
theorem zba: ∀ w,(sizeOf 48).run prog w= .ok 3 w:=fun w=>by kernel_rfl
theorem zhy: ∀ w,(isAgg 48).run prog w= .ok true w:=fun w=>by kernel_rfl
theorem zng{a c:Bool}:ZeroOk prog 48 (z01 a c) (⟨(0:Int),(0:Int),([]:List (List Edge))⟩:Mach) 40:=by
 obtain⟨i,zv,hi,d,f,g,h⟩:=z2o (P:=prog) (e:=48) (zv:=(.agg #[(vi 0),(vi 0),vs0])) (k:=3) (b:=40) (by kernel_rfl);exact⟨i,zv,hi,d,f,g,fun R=>by subst h;exact⟨_,_,rfl,rfl,⟨_,_,rfl,rfl,(jf rfl z0p)⟩⟩⟩
theorem zc2{a b:Bool}:TyOk prog 48 (z01 a b):=by
 obtain⟨i,hi,c⟩: ∃ i,prog.info? 48=some i∧i.size=3:=gm (by kernel_rfl);exact z0d underlying48 hi rfl c
theorem z9h:FieldOk prog 48 0 0:=by
 obtain⟨i,hi,a⟩: ∃ i,prog.info? 3=some i∧i.size=1:=gm (by kernel_rfl);exact z1l underlying48 rfl rfl hi (by rw [a];rfl)
theorem zg0:FieldOk prog 48 1 1:=by
 obtain⟨i,hi,a⟩: ∃ i,prog.info? 3=some i∧i.size=1:=gm (by kernel_rfl);exact z1l underlying48 rfl rfl hi (by rw [a];rfl)
theorem zah:FieldOk prog 48 2 2:=by
 obtain⟨i,hi,a⟩: ∃ i,prog.info? 46=some i∧i.size=1:=gm (by kernel_rfl);exact z1l underlying48 rfl rfl hi (by rw [a];rfl)
theorem zi0{a b:Bool}:TyOk prog 46 (tSl a (tSl b kEdge)):=by
 obtain⟨i,hi,c⟩: ∃ i,prog.info? 46=some i∧i.size=1:=gm (by kernel_rfl);exact z0d underlying46 hi rfl c
theorem zlk{a:Bool}:TyOk prog 45 (tSl a kEdge):=by
 obtain⟨i,hi,b⟩: ∃ i,prog.info? 45=some i∧i.size=1:=gm (by kernel_rfl);exact z0d underlying45 hi rfl b
theorem zn4{a:Bool}:SlOk prog 46 45 (tSl a kEdge):=⟨underlying46,zlk⟩
theorem zj5:TyOk prog 65 kEdge:=by
 obtain⟨i,hi,a⟩: ∃ i,prog.info? 65=some i∧i.size=2:=gm (by kernel_rfl);exact z0d underlying65 hi rfl a
theorem zmq:SlOk prog 45 65 kEdge:=⟨underlying45,zj5⟩
theorem z4o{N:Nat}{R:RH}{s:(List Edge)}{c:Value}(k:VRep (tSl false kEdge) R c s){f:Edge→Option Bool}{e:Value}(n:FOk1 prog R e kEdge z2n f){r:Int}(b:z02 N s f=some r):CallP prog 76 #[c,e] R (fun v R'=>v=(vi r)):=by
 refine qg (args:=[c,e]) func76 rfl rfl fun A=>?_;rw [z02] at b;refine zm (zh (vi 0) (z8 ?_));obtain⟨o,a,b⟩:=zo b;refine qj (γ:=Unit) (rs [4,19]) (fun g=>[]) (fun g=>[]++A) (fun g R=>o=Ex.go g∧True) ?_ ?_
 refine zm (ze c (zy (qm rfl underlying45 rfl (jk k)) (ze (vi 0) (z8 (qb (qy (γ:=Nat×Int) (rs [4,6,8,19]) (fun g=>[(8,(vi g.2))]) (fun g=>[]++A) (fun g R=>pz N s f g.1 g.2=some o∧True) (fun g=>g.1) (N,0) prm ⟨a,trivial⟩ ?_))))));clear a;rintro⟨m,d⟩ y H h ⟨a,_⟩
 rcases m with _|m;exact qo a;replace a:pz N s f (m+1) d=some o:=a;rw [pz] at a;refine zm (zy (j5 rfl rfl) (z8 (zz (zx rfl a (fun a=>?_) (fun a=>?_)))))
 refine qa (zz (qb (zm (ze (vi d) (zh (vi d) (qp (ze e (ze c (ze (vi d) ?_)))))))));obtain⟨l,a⟩:=zb a;refine jy (i:=d.toNat) rfl zmq rfl (jk (k.mono h)) (zi rfl l.1) (q8 l) fun z p=>?_;refine qz rfl zj5 rfl p fun B q=>?_;obtain rfl:=z2p.1 q
 obtain⟨C,t,a⟩:=zo a;refine z6f rfl rfl rfl ((n.mono h) _ (RH.le.refl _) (ix s d) _ _ (z2p.2 rfl) t) fun E F j u=>?_;obtain rfl:=mq.1 u;refine z8 (zx rfl a (fun a=>?_) (fun a=>?_));refine zm (ze (vi d) (zh (vi d) (z8 (qd ?_))));replace b:=ic a b;obtain rfl:=Option.some.inj b
 refine qc (D:=[]) (J:=[]) (rs:=[.tmp 4]) (vs:=[(vi d)]) (h.trans j) rfl rfl ⟨rfl,trivial⟩ ?_;exact⟨rfl,rfl⟩;refine qa (zw ?_);obtain⟨w,a⟩:=zb a;refine zy (qi rfl rfl w) (ze (vi (d+1)) (z8 ?_));exact⟨dkt,j,jc,(m,d+1),Nat.lt_succ_self _,⟨rfl,trivial⟩,prm,a,trivial⟩;refine ja ?_
 exact⟨dkt,h,jc,(),trivial,prm,(Option.some.inj a).symm,trivial⟩;rintro I G K x ⟨rfl,_⟩;replace b:=lv b;refine zm (zh (vi (-1)) (z8 (qd ?_)));obtain rfl:=Option.some.inj b;refine qc (D:=[]) (J:=[]) (rs:=[.tmp 4]) (vs:=[(vi (-1))]) x rfl rfl ⟨rfl,trivial⟩ ?_;exact⟨rfl,rfl⟩
theorem zni:Enters prog 76:=enters_of func76 rfl (by kernel_rfl)
theorem z3n{N:Nat}{R:RH}{s:(List Edge)}{a:Value}(d:VRep (tSl false kEdge) R a s){f:Edge→Option Bool}{b:Value}(e:FOk1 prog R b kEdge z2n f){r:Bool}(c:fu N s f=some r):CallP prog 56 #[a,b] R (fun v R'=>v=(.bool r)):=by
 refine qg (args:=[a,b]) func56 rfl rfl fun A=>?_;rw [fu] at c;refine zm (zh (.bool false) (qp (ze a (ze b ?_))));obtain⟨h,i,c⟩:=zo c;refine j3 rfl zni rfl (z4o d e i) fun k l g j=>?_;obtain rfl:=j
 refine zy (nu rfl rfl) (zh (.bool (decide (0≤h))) (z8 (qd ?_)));obtain rfl:=Option.some.inj c;refine qc (D:=[]) (J:=[]) (rs:=[.tmp 4]) (vs:=[(.bool (decide (0≤h)))]) g rfl rfl ⟨rfl,trivial⟩ ?_;exact⟨rfl,rfl⟩
theorem zok:Enters prog 56:=enters_of func56 rfl (by kernel_rfl)
theorem zma: ∀ w,∃ z,(zeroValue 65).run prog w= .ok z w∧z.cells=([.int .i64 0,.int .i64 0]:List Value).toArray:=fun w=>⟨(.agg #[(vi 0),(vi 0)]),by kernel_rfl,rfl⟩
theorem zkx: ∀ w,(sizeOf 65).run prog w= .ok 2 w:=fun w=>by kernel_rfl
theorem zo9: ∀ w,(isAgg 65).run prog w= .ok true w:=fun w=>by kernel_rfl
theorem z7m{N:Nat}{R:RH}  {r:Edge} (a:z3y N  =some r):CallP prog 77 #[] R (fun v R'=>v=(z4f r)):=by
 refine qg (args:=[]) func77 rfl rfl fun A=>?_;rw [z3y] at a;refine zm (cz rfl zma fun b=>?_)
 refine qp (zy (ng (ps:=[(0,(vi (-1))),(1,(vi (-1)))]) (v:=(.agg #[(vi (-1)),(vi (-1))])) rfl (fun w=>by kernel_rfl)) (w9 (i:=0) (vs:=[(vi (-1)),(vi (-1))]) zkx rfl rfl rfl rfl rfl rfl (jm rfl (jm rfl xu)) ?_));refine z8 (qd ?_);obtain rfl:=Option.some.inj a
 refine qc (D:=[]) (J:=[box b [(vi (-1)),(vi (-1))] 65]) (rs:=[.cell 0 65]) (vs:=[(.agg #[(vi (-1)),(vi (-1))])]) (RH.le.refl _) rfl rfl ⟨⟨_,rfl,fun w c=>z1t (i:=0) c rfl rfl zo9 zkx rfl rfl⟩,trivial⟩ ?_;exact⟨rfl,rfl⟩
theorem zmw:Enters prog 77:=enters_of func77 rfl (by kernel_rfl)
theorem zob:zjq prog 65:=zdw (f0:=((prog.fieldsOf 65).toList.getD 0 default)) (f1:=((prog.fieldsOf 65).toList.getD 1 default)) (by kernel_rfl) (by kernel_rfl) (by kernel_rfl) (by kernel_rfl) (by kernel_rfl) (by kernel_rfl) (by kernel_rfl) (by kernel_rfl) (by kernel_rfl) (by kernel_rfl)
theorem zgk:FieldOk prog 65 0 0:=by
 obtain⟨i,hi,a⟩: ∃ i,prog.info? 3=some i∧i.size=1:=gm (by kernel_rfl);exact z1l underlying65 rfl rfl hi (by rw [a];rfl)
theorem zgo:FieldOk prog 65 1 1:=by
 obtain⟨i,hi,a⟩: ∃ i,prog.info? 3=some i∧i.size=1:=gm (by kernel_rfl);exact z1l underlying65 rfl rfl hi (by rw [a];rfl)
theorem zbd{N:Nat}{R:RH}{m:Mach}{p:Value}(w:VRep (z01 false false) R p m){x:Edge}{r:Bool}(n:z6a N m x=some r):CallP prog 58 #[p,(z4f x)] R (fun v R'=>v=(.bool r)):=by
 refine qg (args:=[p,(z4f x)]) func58 rfl rfl fun A=>?_;rw [z6a] at n;refine zm (vv (T:=(z01 false false)) rfl rfl rfl w fun v1 R3 y h5 K=>?_);refine za9 (T:=kEdge) rfl rfl (z2p.2 rfl) fun v6 R8 q t=>?_;refine zh (.bool false) (z8 (zz ?_));obtain⟨b,z,n⟩:=zo n
 let B:=((decide (x.to=b.to∧x.out=b.out))||((((decide (0≤x.to))&&(decide (x.to<(↑m.rows.length:Int))))&&(decide (0≤x.out)))&&(decide (x.out<m.outputs))));let L:=((((decide (0≤x.to))&&(decide (x.to<(↑m.rows.length:Int))))&&(decide (0≤x.out)))&&(decide (x.out<m.outputs)))
 let o:=(((decide (0≤x.to))&&(decide (x.to<(↑m.rows.length:Int))))&&(decide (0≤x.out)));let k:=((decide (0≤x.to))&&(decide (x.to<(↑m.rows.length:Int))));let e:=(true&&((decide (x.to=b.to∧x.out=b.out))==false))
 refine bf 29 [] [phX (z4f x),phX (z4f b),phX (.bool (decide (x.to=b.to∧x.out=b.out))),phX (.bool (decide (x.to=b.to∧x.out=b.out))),phG e (phP (zu .i64) x.to),phG e (phX (vi x.to)),phG e (phX (.bool (decide (0≤x.to)))),phG e (phX (.bool (decide (0≤x.to)))),phG (e&&((decide (0≤x.to))==true)) (phP (zu .i64) x.to),phG (e&&((decide (0≤x.to))==true)) (phX (vi x.to)),phG (e&&((decide (0≤x.to))==true)) (phP (tSl false (tSl false kEdge)) m.rows),phG (e&&((decide (0≤x.to))==true)) (phR (tSl false (tSl false kEdge)) m.rows),phG (e&&((decide (0≤x.to))==true)) (phX (vi (↑m.rows.length:Int))),phG (e&&((decide (0≤x.to))==true)) (phX (.bool (decide (x.to<(↑m.rows.length:Int))))),phG e (phX (.bool k)),phG e (phX (.bool k)),phG (e&&(k==true)) (phP (zu .i64) x.out),phG (e&&(k==true)) (phX (vi x.out)),phG (e&&(k==true)) (phX (.bool (decide (0≤x.out)))),phG e (phX (.bool o)),phG e (phX (.bool o)),phG (e&&(o==true)) (phP (zu .i64) x.out),phG (e&&(o==true)) (phX (vi x.out)),phG (e&&(o==true)) (phP (zu .i64) m.outputs),phG (e&&(o==true)) (phX (vi m.outputs)),phG (e&&(o==true)) (phX (.bool (decide (x.out<m.outputs)))),phG e (phX (.bool L)),phX (.bool B),phX (.bool B)] mixed (by kernel_rfl) (vz ⟨zf,zf,zf,zf,(qh z2k),(qh zf),(qh zf),(qh zf),(qh z2k),(qh zf),(qh z2k),(qh z2d),(qh zf),(qh zf),(qh zf),(qh zf),(qh z2k),(qh zf),(qh zf),(qh zf),(qh zf),(qh z2k),(qh zf),(qh z2k),(qh zf),(qh zf),(qh zf),zf,zf,trivial⟩) ⟨?_,?_,?_,?_,?_,?_,?_,?_,?_,?_,?_,?_,?_,?_,?_,?_,?_,?_,?_,?_,?_,?_,?_,?_,?_,?_,?_,?_,?_,trivial⟩ fun aj u=>?_
 intro l ak a g hd;exact zg rfl rfl rfl (qx (oz zj5 (g 3 rfl) (t.mono a)) (fun _ _ h=>z2p.1 h));intro l am a g hd;exact zg rfl rfl rfl (kv (vs:=[]) zmw rfl (z7m  z) (fun _ _ h=>h));rintro l an a g ⟨c,f,_⟩;exact zg rfl rfl rfl (zk (ziv zob (c rfl) (f rfl)));rintro l ao a g ⟨c,f,_⟩
 exact zg rfl rfl rfl (zk (za (c rfl)));rintro l ap a g ⟨c,_⟩;exact zt (Gj:=true) (Bj:=decide (x.to=b.to∧x.out=b.out)) rfl rfl rfl (je (c rfl)) rfl (fun i d=>z4q zgk zf8 (g 3 rfl) (t.mono a));rintro l aq a g ⟨c,f,_⟩
 exact zt (Gj:=true) (Bj:=decide (x.to=b.to∧x.out=b.out)) rfl rfl rfl (je (f rfl)) rfl (fun i d=>qx (oz ty3 rfl ((c rfl).1 (zq rfl d))) (fun _ _ h=>q9.1 h));rintro l ar a g ⟨c,f,_⟩
 exact zt (Gj:=true) (Bj:=decide (x.to=b.to∧x.out=b.out)) rfl rfl rfl (je (f rfl)) rfl (fun i d=>zk (nu (show l 10=(vi x.to) from(c rfl).1 (zq rfl d)) rfl));rintro l au a g ⟨c,f,j,_⟩
 exact zt (Gj:=true) (Bj:=decide (x.to=b.to∧x.out=b.out)) rfl rfl rfl (je (f rfl)) rfl (fun i d=>zk (za (show l 11=(.bool (decide (0≤x.to))) from(c rfl).1 (zq rfl d))));rintro l av a g ⟨c,_⟩;exact zt (Gj:=e) (Bj:=decide (0≤x.to)) rfl rfl rfl (c rfl) rfl (fun i d=>z4q zgk zf8 (g 3 rfl) (t.mono a))
 rintro l aw a g ⟨c,f,_⟩;exact zt (Gj:=e) (Bj:=decide (0≤x.to)) rfl rfl rfl (f rfl) rfl (fun i d=>qx (oz ty3 rfl ((c rfl).1 (zq i d))) (fun _ _ h=>q9.1 h));rintro l M a g ⟨c,_⟩;exact zt (Gj:=e) (Bj:=decide (0≤x.to)) rfl rfl rfl (c rfl) rfl (fun i d=>z4q zah z6l (g 2 rfl) ((K.mono q).mono a))
 rintro l O a g ⟨c,f,_⟩;exact zt (Gj:=e) (Bj:=decide (0≤x.to)) rfl rfl rfl (f rfl) rfl (fun i d=>oz zi0 rfl ((c rfl).1 (zq i d)));rintro l P a g ⟨c,f,_⟩;exact zt (Gj:=e) (Bj:=decide (0≤x.to)) rfl rfl rfl (f rfl) rfl (fun i d=>zk (qm rfl underlying46 rfl (jk ((c rfl).1 (zq i d)))))
 rintro l Q a g ⟨c,f,j,_⟩;exact zt (Gj:=e) (Bj:=decide (0≤x.to)) rfl rfl rfl (j rfl) rfl (fun i d=>zk (j5 (show l 14=(vi x.to) from(c rfl).1 (zq i d)) (show l 17=(vi (↑m.rows.length:Int)) from(f rfl).1 (zq i d))));rintro l S a g ⟨c,f,j,_⟩
 exact zt (Gj:=true) (Bj:=decide (x.to=b.to∧x.out=b.out)) rfl rfl rfl (je (j rfl)) rfl (fun i d=>zk (pq (show l 12=(.bool (decide (0≤x.to))) from(c rfl).1 (zq rfl d)) (fun s=>(show l 18=(.bool (decide (x.to<(↑m.rows.length:Int)))) from(f rfl).1 (zq (zq rfl d) s))) rfl));rintro l U a g ⟨c,f,j,_⟩
 exact zt (Gj:=true) (Bj:=decide (x.to=b.to∧x.out=b.out)) rfl rfl rfl (je (j rfl)) rfl (fun i d=>zk (za (show l 19=(.bool k) from(c rfl).1 (zq rfl d))));rintro l V a g ⟨c,_⟩
 exact zt (Gj:=e) (Bj:=(decide (0≤x.to))&&(decide (x.to<(↑m.rows.length:Int)))) rfl rfl rfl (c rfl) rfl (fun i d=>z4q zgo zfc (g 3 rfl) (t.mono a));rintro l W a g ⟨c,f,_⟩
 exact zt (Gj:=e) (Bj:=(decide (0≤x.to))&&(decide (x.to<(↑m.rows.length:Int)))) rfl rfl rfl (f rfl) rfl (fun i d=>qx (oz ty3 rfl ((c rfl).1 (zq i d))) (fun _ _ h=>q9.1 h));rintro l X a g ⟨c,f,_⟩
 exact zt (Gj:=e) (Bj:=(decide (0≤x.to))&&(decide (x.to<(↑m.rows.length:Int)))) rfl rfl rfl (f rfl) rfl (fun i d=>zk (nu (show l 22=(vi x.out) from(c rfl).1 (zq i d)) rfl));rintro l Y a g ⟨c,f,j,_⟩
 exact zt (Gj:=true) (Bj:=decide (x.to=b.to∧x.out=b.out)) rfl rfl rfl (je (j rfl)) rfl (fun i d=>zk (pq (show l 20=(.bool k) from(c rfl).1 (zq rfl d)) (fun s=>(show l 23=(.bool (decide (0≤x.out))) from(f rfl).1 (zq (zq rfl d) s))) rfl));rintro l Z a g ⟨c,f,j,_⟩
 exact zt (Gj:=true) (Bj:=decide (x.to=b.to∧x.out=b.out)) rfl rfl rfl (je (j rfl)) rfl (fun i d=>zk (za (show l 24=(.bool o) from(c rfl).1 (zq rfl d))));rintro l aa a g ⟨c,_⟩;exact zt (Gj:=e) (Bj:=k&&(decide (0≤x.out))) rfl rfl rfl (c rfl) rfl (fun i d=>z4q zgo zfc (g 3 rfl) (t.mono a))
 rintro l ab a g ⟨c,f,_⟩;exact zt (Gj:=e) (Bj:=k&&(decide (0≤x.out))) rfl rfl rfl (f rfl) rfl (fun i d=>qx (oz ty3 rfl ((c rfl).1 (zq i d))) (fun _ _ h=>q9.1 h));rintro l ac a g ⟨c,_⟩
 exact zt (Gj:=e) (Bj:=k&&(decide (0≤x.out))) rfl rfl rfl (c rfl) rfl (fun i d=>z4q zg0 zcg (g 2 rfl) ((K.mono q).mono a));rintro l ad a g ⟨c,f,_⟩;exact zt (Gj:=e) (Bj:=k&&(decide (0≤x.out))) rfl rfl rfl (f rfl) rfl (fun i d=>qx (oz ty3 rfl ((c rfl).1 (zq i d))) (fun _ _ h=>q9.1 h))
 rintro l ae a g ⟨c,f,j,_⟩;exact zt (Gj:=e) (Bj:=k&&(decide (0≤x.out))) rfl rfl rfl (j rfl) rfl (fun i d=>zk (j5 (show l 27=(vi x.out) from(c rfl).1 (zq i d)) (show l 29=(vi m.outputs) from(f rfl).1 (zq i d))));rintro l af a g ⟨c,f,j,_⟩
 exact zt (Gj:=true) (Bj:=decide (x.to=b.to∧x.out=b.out)) rfl rfl rfl (je (j rfl)) rfl (fun i d=>zk (pq (show l 25=(.bool o) from(c rfl).1 (zq rfl d)) (fun s=>(show l 30=(.bool (decide (x.out<m.outputs))) from(f rfl).1 (zq (zq rfl d) s))) rfl));rintro l ag a g ⟨c,f,_⟩
 exact zg rfl rfl rfl (zk (df (c rfl) rfl (fun s=>(show l 31=(.bool L) from(f rfl).1 (zq rfl s)))));rintro l ah a g ⟨c,f,j,d3,d4,d5,d6,d7,d8,d9,ax,ay,az,aA,aB,aC,aD,aE,aF,aG,aH,aI,aJ,aK,aL,aM,aN,aO,aP,aQ,_⟩;exact zg rfl rfl rfl (zk (ai (c rfl)))
 intro aR C aS E aT F aU G aV aW aX aY aZ a0 a1 a2 a3 a4 a5 a6 a7 a8 a9 ba bb bc be bg bh bi bj bk bl bm bn bo bp bq br bs bt bu bv bw bx bz bA bB bC bD bE bF bG bH bI H bJ I;obtain rfl:=Eq.symm C;obtain rfl:=Eq.symm E;obtain rfl:=Eq.symm F;obtain rfl:=Eq.symm G;obtain rfl:=Eq.symm H;obtain rfl:=Eq.symm I
 refine z8 (qd ?_);obtain rfl:=Option.some.inj n;refine qc (D:=[]) (J:=[]) (rs:=[.tmp 4]) (vs:=[(.bool B)]) ((y.trans q).trans u) rfl rfl ⟨rfl,trivial⟩ ?_;exact⟨rfl,rfl⟩
end GV
end Go.Proofs.Ytkhihcleegljhaa
