import Derived.Test.YtkhihcleegljhaaShPlain
import Derived.Test.YtkhihcleegljhaaRows
set_option linter.unusedVariables false
set_option linter.unusedSimpArgs false
namespace Go.Proofs.Ytkhihcleegljhaa
namespace GV
open _root_.Go.Proofs.Try
open Go.IntWalk
set_option maxRecDepth 100000
set_option maxHeartbeats 20000000
theorem zlg: ∀ w,∃ z,(zeroValue 27).run prog w= .ok z w∧z.cells=([.slice none 0 0]:List Value).toArray:=fun w=>⟨(.agg #[vs0]),by kernel_rfl,rfl⟩
theorem z2r: ∀ w,(sizeOf 27).run prog w= .ok 1 w:=fun w=>by kernel_rfl
theorem zo3:ZeroOk prog 3 (zx .i64) (0:Int) 8:=by
 obtain⟨i,zv,hi,a,c,d,f⟩:=z3b (P:=prog) (e:=3) (zv:=(vi 0)) (k:=1) (b:=8) (by kernel_rfl);exact⟨i,zv,hi,a,c,d,fun R=>by subst f;exact rfl⟩
theorem fu:FieldOk prog 27 0 0:=by
 obtain⟨i,hi,a⟩: ∃ i,prog.info? 25=some i∧i.size=1:=si (by kernel_rfl);exact z3y underlying27 rfl rfl hi (by rw [a];rfl)
theorem znu: ∀ w,(isAgg 25).run prog w= .ok false w:=fun w=>by kernel_rfl
theorem zj1{a:Bool}:ZeroOk prog 33 (tSl a (zx .i64)) ([]:List Int) 24:=by
 obtain⟨i,zv,hi,c,d,f,g⟩:=z3b (P:=prog) (e:=33) (zv:=vs0) (k:=1) (b:=24) (by kernel_rfl);exact⟨i,zv,hi,c,d,f,fun R=>by subst g;exact(ky rfl z1b)⟩
theorem z7b: ∀ w,(isAgg 27).run prog w= .ok true w:=fun w=>by kernel_rfl
theorem z0i{a b:Bool}:TyOk prog 27 (zu a b):=by
 obtain⟨i,hi,c⟩: ∃ i,prog.info? 27=some i∧i.size=1:=si (by kernel_rfl);exact z2n underlying27 hi rfl c
theorem z3v{a b:Bool}:TyOk prog 25 (tSl a (tSl b (zx .i64))):=by
 obtain⟨i,hi,c⟩: ∃ i,prog.info? 25=some i∧i.size=1:=si (by kernel_rfl);exact z2n underlying25 hi rfl c
theorem z4w{a:Bool}:TyOk prog 33 (tSl a (zx .i64)):=by
 obtain⟨i,hi,b⟩: ∃ i,prog.info? 33=some i∧i.size=1:=si (by kernel_rfl);exact z2n underlying33 hi rfl b
theorem z5c{a:Bool}:SlOk prog 25 33 (tSl a (zx .i64)):=⟨underlying25,z4w⟩
theorem ay{N:Nat}{R:RH}{x:Sa}{h:Value}(n:VRep (zu false false) R h x){r:Int}(d:uz N x=some r):CallP prog 29 #[h] R (fun v R'=>v=(vi r)):=by
 refine ql (args:=[h]) func29 rfl rfl fun A=>?_;rw [uz] at d;refine zq (xy (T:=(zu false false)) rfl rfl rfl n fun F G o H w=>?_);refine zh (vi 0) (za ?_);obtain⟨j,a,d⟩:=zt d
 refine qo (γ:=Int) (rs [2,3,4,17]) (fun g=>[(2,(vi g))]) (fun g=>[]++A) (fun g R=>j=g∧True) ?_ ?_;refine zq (p8 rfl fu qy rfl w fun I p=>?_);refine j5 rfl z3v rfl p fun y k=>?_
 refine q9 (qm rfl underlying25 rfl (jq k)) (ze (vi 0) (za (qc (jb (γ:=Nat×Int×Int) (rs [2,3,4,5,8,17]) (fun g=>[(2,(vi g.2.1)),(8,(vi g.2.2))]) (fun g=>[]++A) (fun g R=>jv N x g.1 g.2.1 g.2.2=some j∧True) (fun g=>g.1) (N,0,0) prm ⟨a,trivial⟩ ?_))));clear a
 rintro⟨e,c,b⟩ z B f ⟨a,_⟩;rcases e with _|e;exact qw a;replace a:jv N x (e+1) c b=some j:=a;rw [jv] at a;refine zq (q9 (je rfl rfl) (za (q8 (zz rfl a (fun a=>?_) (fun a=>?_)))));refine qb (q8 (qc (zq ?_)));obtain⟨l,a⟩:=zb a
 refine kz (i:=b.toNat) rfl z5c rfl (jq (k.mono f)) (zi rfl l.1) (zw l) fun C q=>?_;refine j5 rfl z4w rfl q fun m s=>?_
 refine zh m (za (zy (ze (vi c) (ze m (q9 (qm rfl underlying33 rfl (jq s)) (q9 (zbz rfl underlying3 rfl rfl) (zh (vi (max c (↑(ix x.fB b).length:Int))) (za (zy ?_)))))))));obtain⟨t,a⟩:=zb a;refine q9 (j3 rfl rfl t) (ze (vi (b+1)) (za ?_))
 exact⟨dkt,(RH.le.refl _),jh,(e,max c (↑(ix x.fB b).length:Int),b+1),Nat.lt_succ_self _,⟨rfl,rfl,trivial⟩,prm,a,trivial⟩;refine jf ?_;exact⟨dkt,f,jh,c,⟨rfl,trivial⟩,prm,(Option.some.inj a).symm,trivial⟩;rintro j E K u ⟨rfl,_⟩;refine zq (ze (vi j) (zh (vi j) (za (qi ?_))))
 obtain rfl:=Option.some.inj d;refine qd (D:=[]) (J:=[]) (rs:=[.tmp 2]) (vs:=[(vi j)]) (o.trans u) rfl rfl ⟨rfl,trivial⟩ ?_;exact⟨rfl,rfl⟩
theorem zko:Enters prog 29:=enters_of func29 rfl (by kernel_rfl)
theorem ty3:TyOk prog 3 (zx .i64):=by
 obtain⟨i,hi,a⟩: ∃ i,prog.info? 3=some i∧i.size=1:=si (by kernel_rfl);exact z2n underlying3 hi rfl a
theorem z00:SlOk prog 33 3 (zx .i64):=⟨underlying33,ty3⟩
theorem z03{N:Nat}{R:RH}{x:Sa}{y:Value}(z:VRep (zu false false) R y x){r:Int}(c:w9 N x=some r):CallP prog 18 #[y] R (fun v R'=>v=(vi r)):=by
 refine ql (args:=[y]) func18 rfl rfl fun A=>?_;rw [w9] at c;refine zq (xy (T:=(zu false false)) rfl rfl rfl z fun v1 R3 m h5 W=>?_);refine zh (vi 0) (qz (q9 (jk z0i rfl rfl h5 (z.mono m)) ?_));obtain⟨H,c7,c⟩:=zt c
 refine ja rfl zko rfl (ay (z.mono m) c7) fun v8 aA d h9=>?_;obtain rfl:=h9;refine zh (vi H) (qz (zh (vi 0) (za ?_)));obtain⟨o,a,c⟩:=zt c;refine qo (γ:=Int) (rs [4,5,6,7,13,25]) (fun g=>[(4,(vi g))]) (fun g=>[]++A) (fun g R=>o=g∧True) ?_ ?_
 refine zq (p8 rfl fu qy rfl (W.mono d) fun aC X=>?_);refine j5 rfl z3v rfl X fun aD I=>?_
 refine q9 (qm rfl underlying25 rfl (jq I)) (ze (vi 0) (za (qc (jb (γ:=Nat×Int×Int) (rs [4,5,6,7,16,25]) (fun g=>[(4,(vi g.2.1)),(16,(vi g.2.2))]) (fun g=>[]++A) (fun g R=>xq N x g.1 g.2.1 g.2.2=some o∧True) (fun g=>g.1) (N,0,0) prm ⟨a,trivial⟩ ?_))));clear a
 rintro⟨s,p,n⟩ aE aF w ⟨a,_⟩;rcases s with _|s;exact qw a;replace a:xq N x (s+1) p n=some o:=a;rw [xq] at a;refine zq (q9 (je rfl rfl) (za (q8 (zz rfl a (fun a=>?_) (fun a=>?_)))));refine qb (q8 (qc (zq ?_)));obtain⟨K,a⟩:=zb a
 refine kz (i:=n.toNat) rfl z5c rfl (jq (I.mono w)) (zi rfl K.1) (zw K) fun aG Y=>?_;refine j5 rfl z4w rfl Y fun L Z=>?_
 refine zh L (za (zy (ze (vi p) (ze L (q9 (qm rfl underlying33 rfl (jq Z)) (q9 (z1g rfl rfl) (zh (vi (IntKind.i64.wrap (p+(↑(ix x.fB n).length:Int)))) (za (zy (q9 (z1g rfl rfl) (ze (vi (IntKind.i64.wrap (n+1))) (za ?_))))))))))))
 exact⟨dkt,(RH.le.refl _),jh,(s,IntKind.i64.wrap (p+(↑(ix x.fB n).length:Int)),IntKind.i64.wrap (n+1)),Nat.lt_succ_self _,⟨rfl,rfl,trivial⟩,prm,a,trivial⟩;refine jf ?_;exact⟨dkt,w,jh,p,⟨rfl,trivial⟩,prm,(Option.some.inj a).symm,trivial⟩;rintro o aH aI h ⟨rfl,_⟩
 refine q8 (zq (zep rfl (z0h fu qy rfl (W.mono (d.trans h))) fun aJ aa=>?_));refine zep rfl (pz z3v rfl aa) fun aK ab=>?_
 refine ji rfl (qm rfl underlying25 rfl (jq ab)) (ji rfl (cu rfl rfl) (ji (v:=(.bool (decide (4096<(↑x.fB.length:Int))))) rfl (z8 rfl) (qp rfl rfl rfl rfl (fun M=>qh (v:=(vi H)) (z8 rfl)) fun aL ac=>?_)));refine qp rfl rfl rfl rfl (fun M=>qh (cu (ac.1 (zl rfl M)) rfl)) fun aM ad=>?_
 refine ji rfl (gz rfl rfl (fun hb=>(ad.1 (zl rfl hb)))) (ji (v:=(.bool ((decide (4096<(↑x.fB.length:Int)))||(decide (4096<H))))) rfl (z8 rfl) (qp rfl rfl rfl rfl (fun M=>qh (v:=(vi o)) (z8 rfl)) fun aN af=>?_));refine qp rfl rfl rfl rfl (fun M=>qh (cu (af.1 (zl rfl M)) rfl)) fun aO ag=>?_
 refine ji rfl (gz rfl rfl (fun hb=>(ag.1 (zl rfl hb)))) (za (zz rfl c (fun c=>?_) (fun c=>?_)));refine zq (zh (vi 3) (za (qi ?_)));obtain rfl:=Option.some.inj c;refine qd (D:=[]) (J:=[]) (rs:=[.tmp 2]) (vs:=[(vi 3)]) ((m.trans d).trans h) rfl rfl ⟨rfl,trivial⟩ ?_;exact⟨rfl,rfl⟩;refine qb ?_
 obtain⟨B,a,c⟩:=zt c;refine qo (γ:=Unit) (rs [2,3,8,9,10,11,37,62]) (fun g=>[]) (fun g=>[]++A) (fun g R=>B=Ex.go g∧True) ?_ ?_;refine zq (p8 rfl fu qy rfl (W.mono (d.trans h)) fun aP ah=>?_);refine j5 rfl z3v rfl ah fun aQ O=>?_
 refine q9 (qm rfl underlying25 rfl (jq O)) (ze (vi 0) (za (qc (jb (γ:=Nat×Int) (rs [2,3,8,9,10,11,40,62]) (fun g=>[(40,(vi g.2))]) (fun g=>[]++A) (fun g R=>nz N x H g.1 g.2=some B∧True) (fun g=>g.1) (N,0) prm ⟨a,trivial⟩ ?_))));clear a;rintro⟨t,e⟩ ao aR l ⟨a,_⟩;rcases t with _|t
 exact qw a;replace a:nz N x H (t+1) e=some B:=a;rw [nz] at a;refine zq (q9 (je rfl rfl) (za (q8 (zz rfl a (fun a=>?_) (fun a=>?_)))));refine qb ?_;obtain⟨C,b,a⟩:=zt a
 refine qo (γ:=Unit) (rs [2,3,8,9,10,11,42,61]) (fun g=>[]) (fun g=>[]++A) (fun g R=>C=Ex.go g∧True) ?_ ?_;refine qc (zq ?_);obtain⟨P,b⟩:=zb b;refine kz (i:=e.toNat) rfl z5c rfl (jq (O.mono l)) (zi rfl P.1) (zw P) fun aS ai=>?_;refine j5 rfl z4w rfl ai fun E F=>?_
 refine zh E (za (q8 (zq (ze E (q9 (qm rfl underlying33 rfl (jq F)) (ze (vi H) (q9 (ww rfl rfl) (za (zz rfl b (fun b=>?_) (fun b=>?_))))))))));refine zq (zh (vi 1) (za (qi ?_)));replace a:=z04 b a;replace c:=z04 a c;obtain rfl:=Option.some.inj c
 refine qd (D:=[]) (J:=[]) (rs:=[.tmp 2]) (vs:=[(vi 1)]) (((m.trans d).trans h).trans l) rfl rfl ⟨rfl,trivial⟩ ?_;exact⟨rfl,rfl⟩
 refine qb (zq (ze E (q9 (qm rfl underlying33 rfl (jq F)) (ze (vi 0) (za (qc (jb (γ:=Nat×Int) (rs [2,3,10,11,50,61]) (fun g=>[(50,(vi g.2))]) (fun g=>[]++A) (fun g R=>ny N x e g.1 g.2=some C∧True) (fun g=>g.1) (N,0) prm ⟨b,trivial⟩ ?_)))))));clear b;rintro⟨u,j⟩ ap aT q ⟨b,_⟩
 rcases u with _|u;exact qw b;replace b:ny N x e (u+1) j=some C:=b;rw [ny] at b;refine zq (q9 (je rfl rfl) (za (q8 (zz rfl b (fun b=>?_) (fun b=>?_)))));refine qb ?_;obtain⟨ak,f,b⟩:=zt b
 refine qo (γ:=Unit) (rs [2,3,10,11,52,60]) (fun g=>[]) (fun g=>[]++A) (fun g R=>ak=Ex.go g∧True) ?_ ?_;refine qc (zq ?_);obtain⟨Q,f⟩:=zb f;refine kz (i:=j.toNat) rfl z00 rfl (jq (F.mono q)) (zi rfl Q.1) (zw Q) fun aU al=>?_;refine j5 rfl ty3 rfl al fun aV am=>?_;obtain rfl:=qa.1 am
 refine zh (vi (ix (ix x.fB e) j)) (za (qc ?_));obtain⟨an,k,f⟩:=zt f;refine qo (γ:=Unit) (rs [54,60]) (fun g=>[]) (fun g=>[]++A) (fun g R=>an=Ex.go g∧True) ?_ ?_
 refine qc (qc (q8 (q8 (zq (ze (vi (ix (ix x.fB e) j)) (q9 (je rfl rfl) (zh (.bool (decide ((ix (ix x.fB e) j)<(-1)))) (za (zz rfl k (fun k=>?_) (fun k=>?_))))))))));refine jf ?_;exact⟨dkt,(RH.le.refl _),jh,(),trivial,prm,(Option.some.inj k).symm,trivial⟩
 refine qb (zq (ze (vi (ix (ix x.fB e) j)) (q9 (aj rfl rfl) (zh (.bool (decide (256≤(ix (ix x.fB e) j)))) (za (zz rfl k (fun k=>?_) (fun k=>?_)))))));refine jf ?_;exact⟨dkt,(RH.le.refl _),jh,(),trivial,prm,(Option.some.inj k).symm,trivial⟩;refine qb (jf ?_);replace f:=z04 k f
 exact⟨dkt,(RH.le.refl _),jh,(),trivial,prm,(Option.some.inj f).symm,trivial⟩;rintro aW aq ar G ⟨rfl,_⟩;replace f:=z0t f;refine q8 (zq (zh (vi 1) (za (qi ?_))));replace b:=z04 f b;replace a:=z04 b a;replace c:=z04 a c;obtain rfl:=Option.some.inj c
 refine qd (D:=[]) (J:=[]) (rs:=[.tmp 2]) (vs:=[(vi 1)]) (((((m.trans d).trans h).trans l).trans q).trans G) rfl rfl ⟨rfl,trivial⟩ ?_;exact⟨rfl,rfl⟩;rintro aX au aY S ⟨rfl,_⟩;replace b:=z0t b;refine zy (q9 (z1g rfl rfl) (ze (vi (IntKind.i64.wrap (j+1))) (za ?_)))
 exact⟨dkt,S,jh,(u,IntKind.i64.wrap (j+1)),Nat.lt_succ_self _,⟨rfl,trivial⟩,prm,b,trivial⟩;refine jf ?_;exact⟨dkt,q,jh,(),trivial,prm,(Option.some.inj b).symm,trivial⟩;rintro aZ av a0 U ⟨rfl,_⟩;replace a:=z0t a;refine zy (q9 (z1g rfl rfl) (ze (vi (IntKind.i64.wrap (e+1))) (za ?_)))
 exact⟨dkt,U,jh,(t,IntKind.i64.wrap (e+1)),Nat.lt_succ_self _,⟨rfl,trivial⟩,prm,a,trivial⟩;refine jf ?_;exact⟨dkt,l,jh,(),trivial,prm,(Option.some.inj a).symm,trivial⟩;rintro a1 aw a2 V ⟨rfl,_⟩;replace c:=z0t c;refine zq (zh (vi 0) (za (qi ?_)));obtain rfl:=Option.some.inj c
 refine qd (D:=[]) (J:=[]) (rs:=[.tmp 2]) (vs:=[(vi 0)]) (((m.trans d).trans h).trans V) rfl rfl ⟨rfl,trivial⟩ ?_;exact⟨rfl,rfl⟩
theorem zgo:Enters prog 18:=enters_of func18 rfl (by kernel_rfl)
theorem zo4:ZeroOk prog 4 z3g false 1:=by
 obtain⟨i,zv,hi,a,c,d,f⟩:=z3b (P:=prog) (e:=4) (zv:=(.bool false)) (k:=1) (b:=1) (by kernel_rfl);exact⟨i,zv,hi,a,c,d,fun R=>by subst f;exact rfl⟩
theorem z10{N:Nat}{R:RH}{x:Sa}{b:Value}(e:VRep (zu false false) R b x){row:Int}{column:Int}{r:Bool}(a:ed N x row column=some r):CallP prog 32 #[b,(vi row),(vi column)] R (fun v R'=>v=(.bool r)):=by
 refine ql (args:=[b,(vi row),(vi column)]) func32 rfl rfl fun A=>?_;rw [ed] at a;refine zq (xy (T:=(zu false false)) rfl rfl rfl e fun t u f w l=>?_);refine zh (.bool false) (qz (p8 rfl fu qy rfl l fun y m=>?_));refine j5 rfl z3v rfl m fun z n=>?_
 refine ze (vi row) ?_;obtain⟨c,a⟩:=zb a;refine kz (i:=row.toNat) rfl z5c rfl (jq n) (zi rfl c.1) (zw c) fun o g=>?_;refine j5 rfl z4w rfl g fun p h=>?_;refine ze (vi column) ?_;obtain⟨d,a⟩:=zb a
 refine kz (i:=column.toNat) rfl z00 rfl (jq h) (zi rfl d.1) (zw d) fun q j=>?_;refine j5 rfl ty3 rfl j fun s k=>?_;obtain rfl:=qa.1 k;refine q9 (ww rfl rfl) (zh (.bool (decide ((ix (ix x.fB row) column)≠(-1)))) (za (qi ?_)));obtain rfl:=Option.some.inj a
 refine qd (D:=[]) (J:=[]) (rs:=[.tmp 6]) (vs:=[(.bool (decide ((ix (ix x.fB row) column)≠(-1))))]) f rfl rfl ⟨rfl,trivial⟩ ?_;exact⟨rfl,rfl⟩
theorem zn1:Enters prog 32:=enters_of func32 rfl (by kernel_rfl)
theorem mh{N:Nat}{R:RH}{x:Sa}{l:Value}(m:VRep (zu false false) R l x){row:Int}{r:(List Int)}(h:yc N x row=some r):CallP prog 24 #[l,(vi row)] R (fun v R'=>VRep (tSl false (zx .i64)) R' v r):=by
 refine ql (args:=[l,(vi row)]) func24 rfl rfl fun A=>?_;rw [yc] at h;refine zq (xy (T:=(zu false false)) rfl rfl rfl m fun v1 R3 n h5 h2=>?_);refine zh vs0 (za ?_);obtain⟨t,a,h⟩:=zt h
 refine qo (γ:=(List Int)×Value×Frag) (rs [4,24]) (fun g=>[(4,g.2.1)]) (fun g=>[g.2.2]++A) (fun g R=>t=g.1∧ORep (zx .i64) R g.2.2 g.2.1 g.1∧True) ?_ ?_;refine zq (p8 rfl fu qy rfl h2 fun ak G=>?_);refine j5 rfl z3v rfl G fun al H=>?_;refine ze (vi row) ?_;obtain⟨u,a⟩:=zb a
 refine kz (i:=row.toNat) rfl z5c rfl (jq H) (zi rfl u.1) (zw u) fun am I=>?_;refine j5 rfl z4w rfl I fun an K=>?_;refine q9 (qm rfl underlying33 rfl (jq K)) (ze (vi 0) (za (qc (z9h ?_))))
 refine jb (γ:=Nat×(List Int)×Int×Value×Frag) (rs [4,6,12,24]) (fun g=>[(4,g.2.2.2.1),(12,(vi g.2.2.1))]) (fun g=>[g.2.2.2.2]++A) (fun g R=>wy N x row g.1 g.2.1 g.2.2.1=some t∧ORep (zx .i64) R g.2.2.2.2 g.2.2.2.1 g.2.1∧True) (fun g=>g.1) (N,[],0,vs0,emp) prm ⟨a,(z5n (T:=(zx .i64))),trivial⟩ ?_
 clear a;rintro⟨j,f,b,o,w⟩ ao ap d ⟨a,p,_⟩;rcases j with _|j;exact qw a;replace a:wy N x row (j+1) f b=some t:=a;rw [wy] at a;refine zq (q9 (je rfl rfl) (za (q8 (zz rfl a (fun a=>?_) (fun a=>?_)))));refine qb ?_;obtain⟨q,c,a⟩:=zt a
 refine qo (γ:=(List Int)×Value×Frag) (rs [4,6,14,23]) (fun g=>[(4,g.2.1)]) (fun g=>[g.2.2]++A) (fun g R=>q=g.1∧ORep (zx .i64) R g.2.2 g.2.1 g.1∧True) ?_ ?_;refine qc (zq (ze (vi b) (zh (vi b) (qz (q9 (jk z0i rfl rfl (h5.mono d) (m.mono (n.trans d))) (ze (vi row) (ze (vi b) ?_)))))))
 obtain⟨aq,L,c⟩:=zt c;refine ja rfl zn1 rfl (z10 (m.mono (n.trans d)) L) fun ar au e M=>?_;obtain rfl:=M;refine za (zz rfl c (fun c=>?_) (fun c=>?_))
 refine zy (ze o (ze (vi b) (oh (T:=(zx .i64)) (X:=([b]:List Int)) (ps:=[(0,(vi b))]) (css:=[[(vi b)]]) rfl underlying33 zo3 rfl rfl (jy ⟨rfl,trivial⟩) rfl rfl (by decide) fun O av s P=>?_)));refine uu (i:=0) rfl P fun Q k S=>?_
 have U:VRep (tSl true (zx .i64)) Q O ([b]:List Int):=(z0f S s);obtain⟨y,c⟩:=zb c;refine z4f (i:=0) (X:=f) (Y:=([b]:List Int)) rfl underlying33 zo3 rfl rfl rfl (p.mono (e.trans k)) (jq (Sub.v (B:=(tSl false (zx .i64))) (yo Sub.refl (fun _=>rfl)) U)) y.1 y.2 fun z V W=>?_;refine zh z (za ?_)
 exact⟨dkt,(e.trans k),jh,((f++([b]:List Int)),z,V),⟨rfl,trivial⟩,prm,(Option.some.inj c).symm,W,trivial⟩;refine qb ?_;exact⟨dkt,e,jh,(f,o,w),⟨rfl,trivial⟩,prm,(Option.some.inj c).symm,(p.mono e),trivial⟩;rintro⟨q,Z,aa⟩ aw ax C ⟨rfl,ab,_⟩;refine zy ?_;obtain⟨ac,a⟩:=zb a
 refine q9 (j3 rfl rfl ac) (ze (vi (b+1)) (za ?_));exact⟨dkt,C,jh,(j,q,b+1,Z,aa),Nat.lt_succ_self _,⟨rfl,rfl,trivial⟩,prm,a,ab,trivial⟩;refine jf ?_;exact⟨dkt,d,jh,(f,o,w),⟨rfl,trivial⟩,prm,(Option.some.inj a).symm,p,trivial⟩;rintro⟨t,F,ay⟩ az R7 ad ⟨rfl,ae,_⟩
 refine zq (ze F (zh F (za (z0o (i:=0) rfl ae fun af E ag=>?_))));have ah:VRep (tSl false (zx .i64)) af F t:=(za8 ag);refine qi ?_;obtain rfl:=Option.some.inj h;refine qd (D:=[]) (J:=[]) (rs:=[.tmp 4]) (vs:=[F]) ((n.trans ad).trans E) rfl rfl ⟨rfl,trivial⟩ ?_;exact⟨rfl,ah⟩
theorem zie:Enters prog 24:=enters_of func24 rfl (by kernel_rfl)
theorem ty4:TyOk prog 4 z3g:=by
 obtain⟨i,hi,a⟩: ∃ i,prog.info? 4=some i∧i.size=1:=si (by kernel_rfl);exact z2n underlying4 hi rfl a
theorem zlw:SlOk prog 29 4 z3g:=⟨underlying29,ty4⟩
theorem z5v{N:Nat}{R:RH}{x:Sa}{t:Value}(l:VRep (zu false false) R t x){r:(List Bool)×Int}(b:lm N x=some r):CallP prog 7 #[t] R (fun v R'=> ∃ u0,v= .tuple #[u0,(vi r.2)]∧VRep (tSl true z3g) R' u0 r.1):=by
 refine ql (args:=[t]) func7 rfl rfl fun A=>?_;rw [lm] at b;refine zq (xy (T:=(zu false false)) rfl rfl rfl l fun v1 R3 k h5 h2=>?_);refine zh vs0 (zh (vi 0) (za (q8 (zq (q9 (jk z0i rfl rfl h5 (l.mono k)) ?_)))));obtain⟨B,c7,b⟩:=zt b
 refine ja rfl zgo rfl (z03 (l.mono k) c7) fun v8 ae f h9=>?_;obtain rfl:=h9;refine zh (vi B) (qz (ze (vi B) (q9 (ww rfl rfl) (za (zz rfl b (fun b=>?_) (fun b=>?_))))));refine zq (ze (vi B) (zh vs0 (zh (vi B) (za (qi ?_)))));obtain rfl:=Option.some.inj b
 refine qd (D:=[]) (J:=[]) (rs:=[.tmp 2,.tmp 3]) (vs:=[vs0,(vi B)]) (k.trans f) rfl rfl ⟨rfl,rfl,trivial⟩ ?_;exact⟨rfl,⟨vs0,rfl,z1b⟩⟩;refine qb (zq (p8 rfl fu qy rfl (h2.mono f) fun ag H=>?_));refine j5 rfl z3v rfl H fun ah I=>?_
 refine q9 (qm rfl underlying25 rfl (jq I)) ?_;obtain⟨p,b⟩:=zb b;refine zbp (T:=z3g) (m:=(↑x.fB.length:Int).toNat) (c:=(↑x.fB.length:Int).toNat) rfl underlying29 zo4 (zi rfl p.1) (zi rfl p.1) (Nat.le_refl _) (ze5 p) (ze2 p) fun d K u C=>?_;refine zh d (za ?_)
 obtain⟨n,a,b⟩:=zt b;refine qo (γ:=(List Bool)×Frag) (rs [6,7,16,30]) (fun g=>[]) (fun g=>[g.2]++A) (fun g R=>n=g.1∧ORep z3g R g.2 d g.1∧capOf d=g.1.length∧True) ?_ ?_
 refine zq (ze d (q9 (z3i rfl underlying29 rfl C) (ze (vi 0) (za (qc (jb (γ:=Nat×Int×(List Bool)×Frag) (rs [6,7,18,30]) (fun g=>[(18,(vi g.2.1))]) (fun g=>[g.2.2.2]++A) (fun g R=>mq N x g.1 g.2.1 g.2.2.1=some n∧ORep z3g R g.2.2.2 d g.2.2.1∧capOf d=g.2.2.1.length∧True) (fun g=>g.1) (N,0,(mk (↑x.fB.length:Int) false),K) prm ⟨a,C,(u.trans List.length_replicate.symm),trivial⟩ ?_))))))
 clear a;rintro⟨q,e,w,L⟩ ai aj h ⟨a,y,s,_⟩;rcases q with _|q;exact qw a;replace a:mq N x (q+1) e w=some n:=a;rw [mq] at a;refine zq (q9 (je rfl rfl) (za (q8 (zz rfl a (fun a=>?_) (fun a=>?_)))))
 refine qb (q8 (qc (zq (ze (vi e) (zh (vi e) (za (zy (ze d (ze (vi e) (q9 (jk z0i rfl rfl (h5.mono (f.trans h)) (l.mono ((k.trans f).trans h))) (ze (vi e) ?_)))))))))));obtain⟨M,O,a⟩:=zt a
 refine ja rfl zie rfl (mh (l.mono ((k.trans f).trans h)) O) fun ak al o P=>?_;refine q9 (qm rfl underlying33 rfl (jq P)) (q9 (cu rfl rfl) ?_);obtain⟨z,a⟩:=zb a;refine z2c (i:=e.toNat) rfl zlw rfl (y.mono o) (zi rfl z.1) (zw z) fun am Q=>?_
 refine z5h (i:=e.toNat) (j:=0) ty4 (y.mono o) rfl rfl Q (zw z) rfl (fq.2 rfl) fun S U=>?_;refine za (zy ?_);obtain⟨V,a⟩:=zb a;refine q9 (j3 rfl rfl V) (ze (vi (e+1)) (za ?_))
 exact⟨dkt,o,jh,(q,e+1,(up w e (decide (0<(↑M.length:Int)))),S),Nat.lt_succ_self _,⟨rfl,trivial⟩,prm,a,U,(s.trans List.length_set.symm),trivial⟩;refine jf ?_;exact⟨dkt,h,jh,(w,L),trivial,prm,(Option.some.inj a).symm,y,s,trivial⟩;rintro⟨n,an⟩ ao ap E ⟨rfl,W,F,_⟩
 refine zq (ze d (zh d (zh (vi 0) (za (z0o (i:=0) rfl W fun X G Y=>?_)))));have Z:VRep (tSl true z3g) X d n:=(z0f Y F);refine qi ?_;obtain rfl:=Option.some.inj b;refine qd (D:=[]) (J:=[]) (rs:=[.tmp 2,.tmp 3]) (vs:=[d,(vi 0)]) (((k.trans f).trans E).trans G) rfl rfl ⟨rfl,rfl,trivial⟩ ?_
 exact⟨rfl,⟨d,rfl,Z⟩⟩
theorem en7:Enters prog 7:=enters_of func7 rfl (by kernel_rfl)
theorem z1c{N:Nat}{R:RH}{x:Sa}{m:Value}(G:VRep (zu false false) R m x){is:Int→Option Bool}{d:Value}(s:FOk1 prog R d (zx .i64) z3g is){r:(List Int)}(h:mg N x is=some r):CallP prog 26 #[m,d] R (fun v R'=>VRep (tSl false (zx .i64)) R' v r):=by
 refine ql (args:=[m,d]) func26 rfl rfl fun A=>?_;rw [mg] at h;refine zq (xy (T:=(zu false false)) rfl rfl rfl G fun v1 R3 t h5 h2=>?_);refine zh vs0 (za ?_);obtain⟨u,a,h⟩:=zt h
 refine qo (γ:=(List Int)×Value×Frag) (rs [4,20]) (fun g=>[(4,g.2.1)]) (fun g=>[g.2.2]++A) (fun g R=>u=g.1∧ORep (zx .i64) R g.2.2 g.2.1 g.1∧True) ?_ ?_;refine zq (p8 rfl fu qy rfl h2 fun ai H=>?_);refine j5 rfl z3v rfl H fun aj I=>?_
 refine q9 (qm rfl underlying25 rfl (jq I)) (ze (vi 0) (za (qc (z9h ?_))))
 refine jb (γ:=Nat×(List Int)×Int×Value×Frag) (rs [4,6,9,20]) (fun g=>[(4,g.2.2.2.1),(9,(vi g.2.2.1))]) (fun g=>[g.2.2.2.2]++A) (fun g R=>xm N x is g.1 g.2.1 g.2.2.1=some u∧ORep (zx .i64) R g.2.2.2.2 g.2.2.2.1 g.2.1∧True) (fun g=>g.1) (N,[],0,vs0,emp) prm ⟨a,(z5n (T:=(zx .i64))),trivial⟩ ?_;clear a
 rintro⟨j,f,b,n,w⟩ ak al k ⟨a,o,_⟩;rcases j with _|j;exact qw a;replace a:xm N x is (j+1) f b=some u:=a;rw [xm] at a;refine zq (q9 (je rfl rfl) (za (q8 (zz rfl a (fun a=>?_) (fun a=>?_)))));refine qb ?_;obtain⟨p,c,a⟩:=zt a
 refine qo (γ:=(List Int)×Value×Frag) (rs [4,6,11,19]) (fun g=>[(4,g.2.1)]) (fun g=>[g.2.2]++A) (fun g R=>p=g.1∧ORep (zx .i64) R g.2.2 g.2.1 g.1∧True) ?_ ?_;refine qc (zq (ze (vi b) (zh (vi b) (qz (ze d (ze (vi b) ?_))))));obtain⟨am,K,c⟩:=zt c
 refine z6o rfl rfl rfl ((s.mono (t.trans k)) _ (RH.le.refl _) b _ _ (qa.2 rfl) K) fun an ao e L=>?_;obtain rfl:=fq.1 L;refine za (zz rfl c (fun c=>?_) (fun c=>?_))
 refine zy (ze n (ze (vi b) (oh (T:=(zx .i64)) (X:=([b]:List Int)) (ps:=[(0,(vi b))]) (css:=[[(vi b)]]) rfl underlying33 zo3 rfl rfl (jy ⟨rfl,trivial⟩) rfl rfl (by decide) fun M ap q O=>?_)));refine uu (i:=0) rfl O fun P l Q=>?_
 have S:VRep (tSl true (zx .i64)) P M ([b]:List Int):=(z0f Q q);obtain⟨y,c⟩:=zb c;refine z4f (i:=0) (X:=f) (Y:=([b]:List Int)) rfl underlying33 zo3 rfl rfl rfl (o.mono (e.trans l)) (jq (Sub.v (B:=(tSl false (zx .i64))) (yo Sub.refl (fun _=>rfl)) S)) y.1 y.2 fun z U V=>?_;refine zh z (za ?_)
 exact⟨dkt,(e.trans l),jh,((f++([b]:List Int)),z,U),⟨rfl,trivial⟩,prm,(Option.some.inj c).symm,V,trivial⟩;refine qb ?_;exact⟨dkt,e,jh,(f,n,w),⟨rfl,trivial⟩,prm,(Option.some.inj c).symm,(o.mono e),trivial⟩;rintro⟨p,W,Z⟩ aq ar C ⟨rfl,aa,_⟩;refine zy ?_;obtain⟨ab,a⟩:=zb a
 refine q9 (j3 rfl rfl ab) (ze (vi (b+1)) (za ?_));exact⟨dkt,C,jh,(j,p,b+1,W,Z),Nat.lt_succ_self _,⟨rfl,rfl,trivial⟩,prm,a,aa,trivial⟩;refine jf ?_;exact⟨dkt,k,jh,(f,n,w),⟨rfl,trivial⟩,prm,(Option.some.inj a).symm,o,trivial⟩;rintro⟨u,F,au⟩ av R7 ac ⟨rfl,ad,_⟩
 refine zq (ze F (zh F (za (z0o (i:=0) rfl ad fun ae E af=>?_))));have ag:VRep (tSl false (zx .i64)) ae F u:=(za8 af);refine qi ?_;obtain rfl:=Option.some.inj h;refine qd (D:=[]) (J:=[]) (rs:=[.tmp 4]) (vs:=[F]) ((t.trans ac).trans E) rfl rfl ⟨rfl,trivial⟩ ?_;exact⟨rfl,ag⟩
theorem z6h{N:Nat}{R:RH}{x:Sa}{I:Value}(s:VRep (zu false false) R I x){rows:(List Int)}{f:Value}(p:VRep (tSl false (zx .i64)) R f rows){r:(List Int)}(l:l5 N x rows=some r):CallP prog 25 #[I,f] R (fun v R'=>VRep (tSl true (zx .i64)) R' v r):=by
 refine ql (args:=[I,f]) func25 rfl rfl fun A=>?_;rw [l5] at l;refine zq (xy (T:=(zu false false)) rfl rfl rfl s fun v1 R3 o h5 h2=>?_);refine zh vs0 (qz (q9 (jk z0i rfl rfl h5 (s.mono o)) ?_));obtain⟨y6,c7,l⟩:=zt l
 refine ja rfl zko rfl (ay (s.mono o) c7) fun v8 aD k h9=>?_;obtain rfl:=h9;obtain⟨y,l⟩:=zb l;refine zbp (T:=(zx .i64)) (m:=y6.toNat) (c:=y6.toNat) rfl underlying33 zo3 (zi rfl y.1) (zi rfl y.1) (Nat.le_refl _) (ze5 y) (ze2 y) fun d ac K ad=>?_;refine zh d (za ?_)
 obtain⟨t,b,l⟩:=zt l;refine qo (γ:=(List Int)×Frag) (rs [7,8,9,10,13,35]) (fun g=>[]) (fun g=>[g.2]++A) (fun g R=>t=g.1∧ORep (zx .i64) R g.2 d g.1∧capOf d=g.1.length∧True) ?_ ?_
 refine zq (ze f (q9 (qm rfl underlying33 rfl (jq (p.mono (o.trans k)))) (ze (vi 0) (za (qc (jb (γ:=Nat×Int×(List Int)×Frag) (rs [7,8,9,10,15,35]) (fun g=>[(15,(vi g.2.1))]) (fun g=>[g.2.2.2]++A) (fun g R=>xx N x rows g.1 g.2.1 g.2.2.1=some t∧ORep (zx .i64) R g.2.2.2 d g.2.2.1∧capOf d=g.2.2.1.length∧True) (fun g=>g.1) (N,0,(mk y6 (0:Int)),ac) prm ⟨b,ad,(K.trans List.length_replicate.symm),trivial⟩ ?_))))))
 clear b;rintro⟨z,q,L,P⟩ aF aG n ⟨b,Q,E,_⟩;rcases z with _|z;exact qw b;replace b:xx N x rows (z+1) q L=some t:=b;rw [xx] at b;refine zq (q9 (je rfl rfl) (za (q8 (zz rfl b (fun b=>?_) (fun b=>?_)))));refine qb ?_;obtain⟨u,a,b⟩:=zt b
 refine qo (γ:=(List Int)×Frag) (rs [7,8,9,10,17,34]) (fun g=>[]) (fun g=>[g.2]++A) (fun g R=>u=g.1∧ORep (zx .i64) R g.2 d g.1∧capOf d=g.1.length∧True) ?_ ?_;refine qc (zq ?_);obtain⟨S,a⟩:=zb a
 refine kz (i:=q.toNat) rfl z00 rfl (jq (p.mono ((o.trans k).trans n))) (zi rfl S.1) (zw S) fun aH ae=>?_;refine j5 rfl ty3 rfl ae fun aI af=>?_;obtain rfl:=qa.1 af
 refine zh (vi (ix rows q)) (qz (q9 (jk z0i rfl rfl (h5.mono (k.trans n)) (s.mono ((o.trans k).trans n))) (ze (vi (ix rows q)) ?_)));obtain⟨h,ag,a⟩:=zt a;refine ja rfl zie rfl (mh (s.mono ((o.trans k).trans n)) ag) fun aJ aK F U=>?_
 refine q9 (qm rfl underlying33 rfl (jq U)) (ze (vi 0) (za (qc (jb (γ:=Nat×Int×(List Int)×Frag) (rs [9,10,23,34]) (fun g=>[(23,(vi g.2.1))]) (fun g=>[g.2.2.2]++A) (fun g R=>xw N h g.1 g.2.1 g.2.2.1=some u∧ORep (zx .i64) R g.2.2.2 d g.2.2.1∧capOf d=g.2.2.1.length∧True) (fun g=>g.1) (N,0,L,P) prm ⟨a,(Q.mono F),E,trivial⟩ ?_))))
 clear a;rintro⟨B,e,C,ah⟩ aL aM G ⟨a,w,H,_⟩;rcases B with _|B;exact qw a;replace a:xw N h (B+1) e C=some u:=a;rw [xw] at a;refine zq (q9 (je rfl rfl) (za (q8 (zz rfl a (fun a=>?_) (fun a=>?_)))));refine qb (q8 (qc (zq ?_)))
 obtain⟨V,a⟩:=zb a;refine kz (i:=e.toNat) rfl z00 rfl (jq (U.mono G)) (zi rfl V.1) (zw V) fun aN ai=>?_;refine j5 rfl ty3 rfl ai fun aO aj=>?_;obtain rfl:=qa.1 aj;refine zh (vi (ix h e)) (za (zy (ze d (ze (vi (ix h e)) ?_))));obtain⟨M,a⟩:=zb a
 refine z2c (i:=(ix h e).toNat) rfl z00 rfl w (zi rfl M.1) (zw M) fun aP ak=>?_;refine z8k (i:=(ix h e).toNat) (j:=0) rfl ty3 w rfl rfl ak (zw M) fun aQ al=>?_;obtain rfl:=qa.1 al;obtain⟨am,a⟩:=zb a;refine q9 (j3 rfl rfl am) ?_;obtain⟨O,a⟩:=zb a
 refine z2c (i:=(ix h e).toNat) rfl z00 rfl w (zi rfl O.1) (zw O) fun aR an=>?_;refine z5h (i:=(ix h e).toNat) (j:=0) ty3 w rfl rfl an (zw O) rfl (qa.2 rfl) fun ao ap=>?_;refine za (zy ?_);obtain⟨aq,a⟩:=zb a;refine q9 (j3 rfl rfl aq) (ze (vi (e+1)) (za ?_))
 exact⟨dkt,(RH.le.refl _),jh,(B,e+1,(up C (ix h e) ((ix C (ix h e))+1)),ao),Nat.lt_succ_self _,⟨rfl,trivial⟩,prm,a,ap,(H.trans List.length_set.symm),trivial⟩;refine jf ?_;exact⟨dkt,(F.trans G),jh,(C,ah),trivial,prm,(Option.some.inj a).symm,w,H,trivial⟩;rintro⟨u,ar⟩ aS aT W ⟨rfl,au,X,_⟩;refine zy ?_
 obtain⟨av,b⟩:=zb b;refine q9 (j3 rfl rfl av) (ze (vi (q+1)) (za ?_));exact⟨dkt,W,jh,(z,q+1,u,ar),Nat.lt_succ_self _,⟨rfl,trivial⟩,prm,b,au,X,trivial⟩;refine jf ?_;exact⟨dkt,n,jh,(L,P),trivial,prm,(Option.some.inj b).symm,Q,E,trivial⟩;rintro⟨t,aU⟩ aV aW Y ⟨rfl,aw,Z,_⟩
 refine zq (ze d (zh d (za (z0o (i:=0) rfl aw fun ax aa az=>?_))));have aA:VRep (tSl true (zx .i64)) ax d t:=(z0f az Z);refine qi ?_;obtain rfl:=Option.some.inj l;refine qd (D:=[]) (J:=[]) (rs:=[.tmp 4]) (vs:=[d]) (((o.trans k).trans Y).trans aa) rfl rfl ⟨rfl,trivial⟩ ?_;exact⟨rfl,aA⟩
theorem zls:Enters prog 26:=enters_of func26 rfl (by kernel_rfl)
theorem z05{N:Nat}{R:RH}{x:Sa}{b:Value}(c:VRep (zu false false) R b x){row:Int}{r:Bool}(a:xe N x row=some r):CallP prog 27 #[b,(vi row)] R (fun v R'=>v=(.bool r)):=by
 refine ql (args:=[b,(vi row)]) func27 rfl rfl fun A=>?_;rw [xe] at a;refine zq (xy (T:=(zu false false)) rfl rfl rfl c fun k l d g m=>?_);refine zh (.bool false) (qz (q9 (jk z0i rfl rfl g (c.mono d)) (ze (vi row) ?_)));obtain⟨f,h,a⟩:=zt a
 refine ja rfl zie rfl (mh (c.mono d) h) fun n i e j=>?_;refine q9 (qm rfl underlying33 rfl (jq j)) (q9 (cu rfl rfl) (zh (.bool (decide (0<(↑f.length:Int)))) (za (qi ?_))));obtain rfl:=Option.some.inj a
 refine qd (D:=[]) (J:=[]) (rs:=[.tmp 4]) (vs:=[(.bool (decide (0<(↑f.length:Int))))]) (d.trans e) rfl rfl ⟨rfl,trivial⟩ ?_;exact⟨rfl,rfl⟩
theorem zm8:Enters prog 27:=enters_of func27 rfl (by kernel_rfl)
theorem zol:Enters prog 25:=enters_of func25 rfl (by kernel_rfl)
theorem mixed:prog.follows .mixedOrders=true:=by kernel_rfl
theorem z6d{N:Nat}{R:RH}{x:Sa}{b:Value}(f:VRep (zu false false) R b x){r:(List Int)×Int}(d:ll N x=some r):CallP prog 8 #[b] R (fun v R'=> ∃ q,v= .tuple #[q,(vi r.2)]∧VRep (tSl true (zx .i64)) R' q r.1):=by
 refine ql (args:=[b]) func8 rfl rfl fun A=>?_;rw [ll] at d;refine zq (xy (T:=(zu false false)) rfl rfl rfl f fun v1 R3 e p h2=>?_);refine zh vs0 (zh (vi 0) (za (q8 (zq (q9 (jk z0i rfl rfl p (f.mono e)) ?_)))));obtain⟨j,O,d⟩:=zt d
 refine ja rfl zgo rfl (z03 (f.mono e) O) fun v8 P a Q=>?_;obtain rfl:=Q;refine zh (vi j) (qz (ze (vi j) (q9 (ww rfl rfl) (za (zz rfl d (fun d=>?_) (fun d=>?_))))));refine zq (ze (vi j) (zh vs0 (zh (vi j) (za (qi ?_)))));obtain rfl:=Option.some.inj d
 refine qd (D:=[]) (J:=[]) (rs:=[.tmp 2,.tmp 3]) (vs:=[vs0,(vi j)]) (e.trans a) rfl rfl ⟨rfl,rfl,trivial⟩ ?_;exact⟨rfl,⟨vs0,rfl,z1b⟩⟩;refine qb (q8 ?_);obtain⟨s,t,d⟩:=zt d;obtain⟨k,u,d⟩:=zt d
 refine ni 8 [] [phX b,phX b,phX b,phX (.func (.func 27) #[b] #[]),phR (tSl false (zx .i64)) s,phR (tSl true (zx .i64)) k,phR (tSl true (zx .i64)) k,phX (vi 0)] mixed (by kernel_rfl) (gy ⟨zf,zf,zf,zf,z1w,z1w,z1w,zf,trivial⟩) ⟨?_,?_,?_,?_,?_,?_,?_,?_,trivial⟩ fun S m=>?_;intro l U c g L
 exact zg rfl rfl rfl (zk (jk z0i rfl (g 1 rfl) ((p.mono a).mono c) ((f.mono (e.trans a)).mono c)));intro l V c g L;exact zg rfl rfl rfl (zk (jk z0i rfl (g 1 rfl) ((p.mono a).mono c) ((f.mono (e.trans a)).mono c)));intro l W c g L
 exact zg rfl rfl rfl (zk (jk z0i rfl (g 1 rfl) ((p.mono a).mono c) ((f.mono (e.trans a)).mono c)));rintro l X c g ⟨i,_⟩;have w:l 12=b:=i rfl;exact zg rfl rfl rfl (zk (fw (fs:=[b]) (cs:=[]) (by simp only [List.map,ev,w]<;>rfl) rfl));rintro l Y c g ⟨i,n,_⟩;have z:l 11=b:=i rfl
 have B:l 13=(.func (.func 27) #[b] #[]):=n rfl
 exact zg rfl rfl rfl (uk (vs:=[b,(.func (.func 27) #[b] #[])]) zls (by simp only [List.map,ev,z,B]<;>rfl) (z1c ((f.mono (e.trans a)).mono c) ((za5 (fs:=[b]) zm8 fun R1 Z z0 q y k0 hy=>by obtain rfl:=qa.1 k0;exact CallP.mono (z05 ((f.mono (e.trans a)).mono Z) hy) fun v R2 _ hv=>fq.2 hv).mono c) t) (fun _ _ h=>h))
 rintro l ad c g ⟨i,n,M,_⟩;have C:l 10=b:=i rfl;exact zg rfl rfl rfl (uk (vs:=[b,(l 14)]) zol (by simp only [List.map,ev,C]<;>rfl) (z6h ((f.mono (e.trans a)).mono c) (n rfl) u) (fun _ _ h=>h));rintro l ae c g ⟨i,n,M,d3,d4,d5,d6,d7,_⟩;exact zg rfl rfl rfl (zn2 (l9 rfl) (i rfl))
 rintro l ak c g ⟨i,n,M,d3,d4,d5,d6,d7,_⟩;exact zg rfl rfl rfl (zk (l9 rfl));intro al E am F an G ao H ap aq ar au o I av K;obtain rfl:=Eq.symm E;obtain rfl:=Eq.symm F;obtain rfl:=Eq.symm G;obtain rfl:=Eq.symm H;obtain rfl:=Eq.symm K;refine za (qi ?_);obtain rfl:=Option.some.inj d
 refine qd (D:=[]) (J:=[]) (rs:=[.tmp 2,.tmp 3]) (vs:=[o,(vi 0)]) ((e.trans a).trans m) rfl rfl ⟨rfl,rfl,trivial⟩ ?_;exact⟨rfl,⟨o,rfl,I⟩⟩
theorem en8:Enters prog 8:=enters_of func8 rfl (by kernel_rfl)
theorem z18{N:Nat}{R:RH}{x:Sa}{f:Value}(l:VRep (zu false false) R f x){r:Int}(e:bv N x=some r):CallP prog 9 #[f] R (fun v R'=>v=(vi r)):=by
 refine ql (args:=[f]) func9 rfl rfl fun A=>?_;rw [bv] at e;refine zq (xy (T:=(zu false false)) rfl rfl rfl l fun L M m O y=>?_);refine zh (vi 0) (qz (zh (vi 0) (za ?_)));obtain⟨h,a,e⟩:=zt e
 refine qo (γ:=Int) (rs [3,20]) (fun g=>[(3,(vi g))]) (fun g=>[]++A) (fun g R=>h=g∧True) ?_ ?_
 refine zq (zh (vi 0) (za (qc (jb (γ:=Nat×Int×Int) (rs [3,20]) (fun g=>[(3,(vi g.2.1)),(4,(vi g.2.2))]) (fun g=>[]++A) (fun g R=>ku N x g.1 g.2.1 g.2.2=some h∧True) (fun g=>g.1) (N,0,0) prm ⟨a,trivial⟩ ?_))));clear a;rintro⟨k,c,b⟩ z B d ⟨a,_⟩;rcases k with _|k;exact qw a
 replace a:ku N x (k+1) c b=some h:=a;rw [ku] at a;refine q8 (zq (ze (vi b) (p8 rfl fu qy rfl (y.mono d) fun C n=>?_)));refine j5 rfl z3v rfl n fun E o=>?_
 refine q9 (qm rfl underlying25 rfl (jq o)) (q9 (je rfl rfl) (za (zz rfl a (fun a=>?_) (fun a=>?_))));refine qb (q8 (qc (zy (ze (vi c) (p8 rfl fu qy rfl (y.mono d) fun F p=>?_)))));refine j5 rfl z3v rfl p fun G q=>?_;refine ze (vi b) ?_
 obtain⟨j,a⟩:=zb a;refine kz (i:=b.toNat) rfl z5c rfl (jq q) (zi rfl j.1) (zw j) fun H s=>?_;refine j5 rfl z4w rfl s fun I t=>?_
 refine q9 (qm rfl underlying33 rfl (jq t)) (q9 (zbz rfl underlying3 rfl rfl) (zh (vi (max c (↑(ix x.fB b).length:Int))) (za (zy (ze (vi b) ?_)))));obtain⟨u,a⟩:=zb a;refine q9 (j3 rfl rfl u) (zh (vi (b+1)) (za ?_))
 exact⟨dkt,(RH.le.refl _),jh,(k,max c (↑(ix x.fB b).length:Int),b+1),Nat.lt_succ_self _,⟨rfl,rfl,trivial⟩,prm,a,trivial⟩;refine jf ?_;exact⟨dkt,d,jh,c,⟨rfl,trivial⟩,prm,(Option.some.inj a).symm,trivial⟩;rintro h K P w ⟨rfl,_⟩;refine zq (ze (vi h) (zh (vi h) (za (qi ?_))));obtain rfl:=Option.some.inj e
 refine qd (D:=[]) (J:=[]) (rs:=[.tmp 2]) (vs:=[(vi h)]) (m.trans w) rfl rfl ⟨rfl,trivial⟩ ?_;exact⟨rfl,rfl⟩
theorem en9:Enters prog 9:=enters_of func9 rfl (by kernel_rfl)
theorem z3x{N:Nat}{R:RH}{x:Sa}{b:Value}(e:VRep (zu false false) R b x){row:Int}{column:Int}{r:Bool}(a:lh N x row column=some r):CallP prog 28 #[b,(vi row),(vi column)] R (fun v R'=>v=(.bool r)):=by
 refine ql (args:=[b,(vi row),(vi column)]) func28 rfl rfl fun A=>?_;rw [lh] at a;refine zq (xy (T:=(zu false false)) rfl rfl rfl e fun t u f w l=>?_);refine zh (.bool false) (qz (p8 rfl fu qy rfl l fun y m=>?_));refine j5 rfl z3v rfl m fun z n=>?_
 refine ze (vi row) ?_;obtain⟨c,a⟩:=zb a;refine kz (i:=row.toNat) rfl z5c rfl (jq n) (zi rfl c.1) (zw c) fun o g=>?_;refine j5 rfl z4w rfl g fun p h=>?_;refine ze (vi column) ?_;obtain⟨d,a⟩:=zb a
 refine kz (i:=column.toNat) rfl z00 rfl (jq h) (zi rfl d.1) (zw d) fun q j=>?_;refine j5 rfl ty3 rfl j fun s k=>?_;obtain rfl:=qa.1 k;refine q9 (aj rfl rfl) (zh (.bool (decide (0≤(ix (ix x.fB row) column)))) (za (qi ?_)));obtain rfl:=Option.some.inj a
 refine qd (D:=[]) (J:=[]) (rs:=[.tmp 6]) (vs:=[(.bool (decide (0≤(ix (ix x.fB row) column))))]) f rfl rfl ⟨rfl,trivial⟩ ?_;exact⟨rfl,rfl⟩
theorem zoh:Enters prog 28:=enters_of func28 rfl (by kernel_rfl)
theorem z7g{N:Nat}{R:RH}{x:Sa}{j:Value}(k:VRep (zu false false) R j x){row:Int}{r:Bool}(c:z08 N x row=some r):CallP prog 10 #[j,(vi row)] R (fun v R'=>v=(.bool r)):=by
 refine ql (args:=[j,(vi row)]) func10 rfl rfl fun A=>?_;rw [z08] at c;refine zq (xy (T:=(zu false false)) rfl rfl rfl k fun O P e y z=>?_);refine zh (.bool false) (za ?_);obtain⟨m,a,c⟩:=zt c
 refine qo (γ:=Unit) (rs [4,20]) (fun g=>[]) (fun g=>[]++A) (fun g R=>m=Ex.go g∧True) ?_ ?_;refine zq (zh (vi 0) (za (qc (jb (γ:=Nat×Int) (rs [4,20]) (fun g=>[(5,(vi g.2))]) (fun g=>[]++A) (fun g R=>yg N x row g.1 g.2=some m∧True) (fun g=>g.1) (N,0) prm ⟨a,trivial⟩ ?_))));clear a
 rintro⟨f,d⟩ B C b ⟨a,_⟩;rcases f with _|f;exact qw a;replace a:yg N x row (f+1) d=some m:=a;rw [yg] at a;refine q8 (zq (ze (vi d) (p8 rfl fu qy rfl (z.mono b) fun E n=>?_)));refine j5 rfl z3v rfl n fun F o=>?_
 refine ze (vi row) ?_;obtain⟨l,a⟩:=zb a;refine kz (i:=row.toNat) rfl z5c rfl (jq o) (zi rfl l.1) (zw l) fun G p=>?_;refine j5 rfl z4w rfl p fun H q=>?_;refine q9 (qm rfl underlying33 rfl (jq q)) (q9 (je rfl rfl) (za (zz rfl a (fun a=>?_) (fun a=>?_))))
 refine qb (q8 (qc (zq (q9 (jk z0i rfl rfl (y.mono b) (k.mono (e.trans b))) (ze (vi row) (ze (vi d) ?_))))));obtain⟨I,s,a⟩:=zt a;refine ja rfl zoh rfl (z3x (k.mono (e.trans b)) s) fun K L h t=>?_;obtain rfl:=t;refine za (zz rfl a (fun a=>?_) (fun a=>?_))
 refine zq (zh (.bool true) (za (qi ?_)));replace c:=z04 a c;obtain rfl:=Option.some.inj c;refine qd (D:=[]) (J:=[]) (rs:=[.tmp 4]) (vs:=[(.bool true)]) ((e.trans b).trans h) rfl rfl ⟨rfl,trivial⟩ ?_;exact⟨rfl,rfl⟩;refine qb (zy (ze (vi d) ?_));obtain⟨u,a⟩:=zb a
 refine q9 (j3 rfl rfl u) (zh (vi (d+1)) (za ?_));exact⟨dkt,h,jh,(f,d+1),Nat.lt_succ_self _,⟨rfl,trivial⟩,prm,a,trivial⟩;refine jf ?_;exact⟨dkt,b,jh,(),trivial,prm,(Option.some.inj a).symm,trivial⟩;rintro Q M S w ⟨rfl,_⟩;replace c:=z0t c;refine zq (zh (.bool false) (za (qi ?_)))
 obtain rfl:=Option.some.inj c;refine qd (D:=[]) (J:=[]) (rs:=[.tmp 4]) (vs:=[(.bool false)]) (e.trans w) rfl rfl ⟨rfl,trivial⟩ ?_;exact⟨rfl,rfl⟩
theorem zqf:Enters prog 10:=enters_of func10 rfl (by kernel_rfl)
theorem za3: ∀ w,∃ z,(zeroValue 3).run prog w= .ok z w∧z.cells=([.int .i64 0]:List Value).toArray:=fun w=>⟨(vi 0),by kernel_rfl,rfl⟩
theorem sz3: ∀ w,(sizeOf 3).run prog w= .ok 1 w:=fun w=>by kernel_rfl
theorem z3h{N:Nat}{R:RH}{s:(List Int)}{c:Value}(k:VRep (tSl false (zx .i64)) R c s){f:Int→Option Bool}{e:Value}(n:FOk1 prog R e (zx .i64) z3g f){r:Int}(b:ak N s f=some r):CallP prog 48 #[c,e] R (fun v R'=>v=(vi r)):=by
 refine ql (args:=[c,e]) func48 rfl rfl fun A=>?_;rw [ak] at b;refine zq (zh (vi 0) (za ?_));obtain⟨o,a,b⟩:=zt b;refine qo (γ:=Unit) (rs [4,19]) (fun g=>[]) (fun g=>[]++A) (fun g R=>o=Ex.go g∧True) ?_ ?_
 refine zq (ze c (q9 (qm rfl underlying33 rfl (jq k)) (ze (vi 0) (za (qc (jb (γ:=Nat×Int) (rs [4,6,8,19]) (fun g=>[(8,(vi g.2))]) (fun g=>[]++A) (fun g R=>u6 N s f g.1 g.2=some o∧True) (fun g=>g.1) (N,0) prm ⟨a,trivial⟩ ?_))))));clear a;rintro⟨m,d⟩ y H h ⟨a,_⟩;rcases m with _|m
 exact qw a;replace a:u6 N s f (m+1) d=some o:=a;rw [u6] at a;refine zq (q9 (je rfl rfl) (za (q8 (zz rfl a (fun a=>?_) (fun a=>?_)))));refine qb (q8 (qc (zq (ze (vi d) (zh (vi d) (qz (ze e (ze c (ze (vi d) ?_)))))))))
 obtain⟨l,a⟩:=zb a;refine kz (i:=d.toNat) rfl z00 rfl (jq (k.mono h)) (zi rfl l.1) (zw l) fun z p=>?_;refine j5 rfl ty3 rfl p fun B q=>?_;obtain rfl:=qa.1 q;obtain⟨C,t,a⟩:=zt a;refine z6o rfl rfl rfl ((n.mono h) _ (RH.le.refl _) (ix s d) _ _ (qa.2 rfl) t) fun E F j u=>?_
 obtain rfl:=fq.1 u;refine za (zz rfl a (fun a=>?_) (fun a=>?_));refine zq (ze (vi d) (zh (vi d) (za (qi ?_))));replace b:=z04 a b;obtain rfl:=Option.some.inj b;refine qd (D:=[]) (J:=[]) (rs:=[.tmp 4]) (vs:=[(vi d)]) (h.trans j) rfl rfl ⟨rfl,trivial⟩ ?_;exact⟨rfl,rfl⟩
 refine qb (zy ?_);obtain⟨w,a⟩:=zb a;refine q9 (j3 rfl rfl w) (ze (vi (d+1)) (za ?_));exact⟨dkt,j,jh,(m,d+1),Nat.lt_succ_self _,⟨rfl,trivial⟩,prm,a,trivial⟩;refine jf ?_;exact⟨dkt,h,jh,(),trivial,prm,(Option.some.inj a).symm,trivial⟩;rintro I G K x ⟨rfl,_⟩;replace b:=z0t b
 refine zq (zh (vi (-1)) (za (qi ?_)));obtain rfl:=Option.some.inj b;refine qd (D:=[]) (J:=[]) (rs:=[.tmp 4]) (vs:=[(vi (-1))]) x rfl rfl ⟨rfl,trivial⟩ ?_;exact⟨rfl,rfl⟩
theorem zo6:Enters prog 48:=enters_of func48 rfl (by kernel_rfl)
theorem z2f{N:Nat}{R:RH}{s:(List Int)}{a:Value}(d:VRep (tSl false (zx .i64)) R a s){f:Int→Option Bool}{b:Value}(e:FOk1 prog R b (zx .i64) z3g f){r:Bool}(c:bz N s f=some r):CallP prog 30 #[a,b] R (fun v R'=>v=(.bool r)):=by
 refine ql (args:=[a,b]) func30 rfl rfl fun A=>?_;rw [bz] at c;refine zq (zh (.bool false) (qz (ze a (ze b ?_))));obtain⟨h,i,c⟩:=zt c;refine ja rfl zo6 rfl (z3h d e i) fun k l g j=>?_;obtain rfl:=j
 refine q9 (aj rfl rfl) (zh (.bool (decide (0≤h))) (za (qi ?_)));obtain rfl:=Option.some.inj c;refine qd (D:=[]) (J:=[]) (rs:=[.tmp 4]) (vs:=[(.bool (decide (0≤h)))]) g rfl rfl ⟨rfl,trivial⟩ ?_;exact⟨rfl,rfl⟩
theorem zny:Enters prog 30:=enters_of func30 rfl (by kernel_rfl)
theorem z94{N:Nat}{R:RH}{c:Int}{p0_:Sa}{a:Value}(e:PRep (zu false false) R a p0_){p1_:Int}{b:Value}(f:PRep (zx .i64) R b p1_){r:Bool}(d:l6 N c p0_ p1_=some r):CallP prog 31 #[(vi c),a,b] R (fun v R'=>v=(.bool r)):=by
 refine ql (args:=[(vi c),a,b]) func31 rfl rfl fun A=>?_;rw [l6] at d;refine zq (zh (.bool false) (qz (j5 rfl z0i rfl e fun m i=>?_)));refine j5 rfl ty3 rfl f fun n j=>?_;obtain rfl:=qa.1 j;refine ze (vi c) ?_;obtain⟨h,k,d⟩:=zt d
 refine ja rfl zn1 rfl (z10 i k) fun o p g l=>?_;obtain rfl:=l;refine zh (.bool h) (za (qi ?_));obtain rfl:=Option.some.inj d;refine qd (D:=[]) (J:=[]) (rs:=[.tmp 4]) (vs:=[(.bool h)]) g rfl rfl ⟨rfl,trivial⟩ ?_;exact⟨rfl,rfl⟩
theorem zpc:Enters prog 31:=enters_of func31 rfl (by kernel_rfl)
theorem z3k{N:Nat}{R:RH}{x:Sa}{w:Value}(m:VRep (zu false false) R w x){choice:(List Int)}{c:Value}(h:VRep (tSl false (zx .i64)) R c choice){r:Bool×Int}(d:ru N x choice=some r):CallP prog 12 #[w,c] R (fun v R'=>v= .tuple #[(.bool r.1),(vi r.2)]):=by
 refine ql (args:=[w,c]) func12 rfl rfl fun A=>?_;rw [ru] at d;refine zq (xy (T:=(zu false false)) rfl rfl rfl m fun v1 R3 j h5 h2=>?_);refine zh (.bool false) (zh (vi 0) (za (q8 (zq (q9 (jk z0i rfl rfl h5 (m.mono j)) ?_)))));obtain⟨K,c7,d⟩:=zt d
 refine ja rfl zgo rfl (z03 (m.mono j) c7) fun v8 aM b h9=>?_;obtain rfl:=h9;refine zh (vi K) (qz (ze (vi K) (q9 (ww rfl rfl) (za (zz rfl d (fun d=>?_) (fun d=>?_))))));refine zq (ze (vi K) (zh (.bool false) (zh (vi K) (za (qi ?_)))));obtain rfl:=Option.some.inj d
 refine qd (D:=[]) (J:=[]) (rs:=[.tmp 4,.tmp 5]) (vs:=[(.bool false),(vi K)]) (j.trans b) rfl rfl ⟨rfl,rfl,trivial⟩ ?_;exact⟨rfl,rfl⟩;refine qb (zq (q9 (jk z0i rfl rfl (h5.mono b) (m.mono (j.trans b))) ?_));obtain⟨z,ad,d⟩:=zt d
 refine ja rfl zko rfl (ay (m.mono (j.trans b)) ad) fun aO aP e ae=>?_;obtain rfl:=ae;refine zh (vi z) (za ?_);obtain⟨G,a,d⟩:=zt d;refine qo (γ:=Unit) (rs [4,6,8,10,19,47]) (fun g=>[]) (fun g=>[]++A) (fun g R=>G=Ex.go g∧True) ?_ ?_
 refine zq (ze c (q9 (qm rfl underlying33 rfl (jq (h.mono ((j.trans b).trans e)))) (ze (vi 0) (za (qc (jb (γ:=Nat×Int) (rs [4,6,8,10,21,47]) (fun g=>[(21,(vi g.2))]) (fun g=>[]++A) (fun g R=>dz N choice z g.1 g.2=some G∧True) (fun g=>g.1) (N,0) prm ⟨a,trivial⟩ ?_))))));clear a
 rintro⟨E,f⟩ aQ aR t ⟨a,_⟩;rcases E with _|E;exact qw a;replace a:dz N choice z (E+1) f=some G:=a;rw [dz] at a;refine zq (q9 (je rfl rfl) (za (q8 (zz rfl a (fun a=>?_) (fun a=>?_)))));refine qb (q8 (qc (zq (ze (vi f) ?_))))
 obtain⟨L,a⟩:=zb a;refine kz (i:=f.toNat) rfl z00 rfl (jq (h.mono (((j.trans b).trans e).trans t))) (zi rfl L.1) (zw L) fun aS af=>?_;refine j5 rfl ty3 rfl af fun aT ag=>?_;obtain rfl:=qa.1 ag
 refine zh (vi f) (zh (vi (ix choice f)) (qz (ji (v:=(vi (ix choice f))) rfl (z8 rfl) (ji rfl (je rfl rfl) (ji (v:=(.bool (decide ((ix choice f)<0)))) rfl (z8 rfl) (qp rfl rfl rfl rfl (fun l=>qh (v:=(vi (ix choice f))) (z8 rfl)) fun aU ah=>?_))))))
 refine qp rfl rfl rfl rfl (fun l=>qh (v:=(vi z)) (z8 rfl)) fun aV ak=>?_;refine qp rfl rfl rfl rfl (fun l=>qh (aj (ah.1 (zl rfl l)) (ak.1 (zl rfl l)))) fun aW al=>?_
 refine ji rfl (gz rfl rfl (fun M=>(al.1 (zl rfl M)))) (ji (v:=(.bool ((decide ((ix choice f)<0))||(decide (z≤(ix choice f)))))) rfl (z8 rfl) (qp rfl rfl rfl rfl (fun l=>qh (v:=(vi f)) (z8 rfl)) fun aX am=>?_));refine qp rfl rfl rfl rfl (fun l=>qh (cu (am.1 (zl rfl l)) rfl)) fun aY an=>?_
 refine qp rfl rfl rfl rfl (fun l=>qh (v:=(.bool (decide (0<f)))) (z8 (an.1 (zl rfl l)))) fun aZ n=>?_;refine z96 rfl rfl rfl n (fun q l=>qh (v:=(vi (ix choice f))) (z8 rfl)) fun a0 ao=>?_;refine z96 rfl rfl rfl n (fun q l=>qh (v:=c) (z8 rfl)) fun a1 ap=>?_
 refine z96 rfl rfl rfl n (fun q l=>qh (v:=(vi f)) (z8 rfl)) fun a2 aq=>?_;obtain⟨ar,a⟩:=zb a;refine z96 rfl rfl rfl n (fun q l=>qh (u7 (aq.1 (zl q l)) rfl (ar (zl q l)))) fun a3 au=>?_;obtain⟨O,a⟩:=zb a
 refine z96 rfl rfl rfl n (fun q l=>z0b (i:=(f-1).toNat) z00 (ap.1 (zl q l)) (jq (h.mono (((j.trans b).trans e).trans t))) (zi (au.1 (zl q l)) (O (zl q l)).1) (zw (O (zl q l)))) fun a4 av=>?_;refine z96 rfl rfl rfl n (fun q l=>qh (z0x (pz ty3 rfl (av.1 (zl q l))))) fun a5 aw=>?_
 refine z96 rfl rfl rfl n (fun q l=>qh (z3f (ao.1 (zl q l)) (aw.1 (zl q l)))) fun a6 ax=>?_;refine qp rfl rfl rfl rfl (fun l=>qh (dh (n.1 (zl rfl l)) (fun M=>(ax.1 (zl (zl rfl l) M))) rfl)) fun a7 az=>?_;refine ji rfl (gz rfl rfl (fun M=>(az.1 (zl rfl M)))) (za (zz rfl a (fun a=>?_) (fun a=>?_)))
 refine zq (zh (.bool false) (zh (vi 1) (za (qi ?_))));replace d:=z04 a d;obtain rfl:=Option.some.inj d;refine qd (D:=[]) (J:=[]) (rs:=[.tmp 4,.tmp 5]) (vs:=[(.bool false),(vi 1)]) (((j.trans b).trans e).trans t) rfl rfl ⟨rfl,rfl,trivial⟩ ?_;exact⟨rfl,rfl⟩;refine qb (zy ?_);obtain⟨aA,a⟩:=zb a
 refine q9 (j3 rfl rfl aA) (ze (vi (f+1)) (za ?_));exact⟨dkt,(RH.le.refl _),jh,(E,f+1),Nat.lt_succ_self _,⟨rfl,trivial⟩,prm,a,trivial⟩;refine jf ?_;exact⟨dkt,t,jh,(),trivial,prm,(Option.some.inj a).symm,trivial⟩;rintro a8 a9 ba k ⟨rfl,_⟩;replace d:=z0t d;obtain⟨H,a,d⟩:=zt d
 refine qo (γ:=Unit) (rs [4,6,11,12,47,61]) (fun g=>[]) (fun g=>[]++A) (fun g R=>H=Ex.go g∧True) ?_ ?_
 refine zq (q9 (jk z0i rfl rfl (h5.mono ((b.trans e).trans k)) (m.mono (((j.trans b).trans e).trans k))) (q9 (jk z0i rfl rfl (h5.mono ((b.trans e).trans k)) (m.mono (((j.trans b).trans e).trans k))) (q9 (fw (fs:=[w]) (cs:=[]) rfl rfl) ?_)));obtain⟨B,aB,a⟩:=zt a
 refine ja rfl zls rfl (z1c (m.mono (((j.trans b).trans e).trans k)) (za5 (fs:=[w]) zm8 fun R1 hq z0 u0 y k0 hy=>by obtain rfl:=qa.1 k0;exact CallP.mono (z05 ((m.mono (((j.trans b).trans e).trans k)).mono hq) hy) fun v R2 _ hv=>fq.2 hv) aB) fun bg bh u P=>?_
 refine q9 (qm rfl underlying33 rfl (jq P)) (ze (vi 0) (za (qc (jb (γ:=Nat×Int) (rs [4,6,11,12,52,61]) (fun g=>[(52,(vi g.2))]) (fun g=>[]++A) (fun g R=>dx N x choice B g.1 g.2=some H∧True) (fun g=>g.1) (N,0) prm ⟨a,trivial⟩ ?_))));clear a;rintro⟨F,s⟩ aF bi o ⟨a,_⟩
 rcases F with _|F;exact qw a;replace a:dx N x choice B (F+1) s=some H:=a;rw [dx] at a;refine zq (q9 (je rfl rfl) (za (q8 (zz rfl a (fun a=>?_) (fun a=>?_)))));refine qb (q8 (qc (zq ?_)));obtain⟨Q,a⟩:=zb a
 refine kz (i:=s.toNat) rfl z00 rfl (jq (P.mono o)) (zi rfl Q.1) (zw Q) fun bj S=>?_;refine j5 rfl ty3 rfl S fun aG U=>?_;obtain rfl:=qa.1 U;refine fe rfl za3 fun p=>?_;refine pu (i:=0) (vs:=[(vi (ix B s))]) sz3 rfl rfl rfl rfl rfl rfl (uf rfl om) ?_
 refine qz (ze c (q9 (fw (fs:=[]) (cs:=[v1,(.pointer (some ⟨p,0,none⟩))]) rfl rfl) ?_));obtain⟨V,W,a⟩:=zt a
 refine z5z (cs:=[]) (vs:=[c,(.func (.func 31) #[] #[v1,(.pointer (some ⟨p,0,none⟩))])]) (φ:=fun v=>v=(.bool V)) rfl zny rfl rfl (fun aH C I=>z2f ((h.mono (((((j.trans b).trans e).trans k).trans u).trans o)).mono C) (za2 (cs:=[v1,(.pointer (some ⟨p,0,none⟩))]) zpc fun R1 hq z0 u0 y k0 hy=>by obtain rfl:=qa.1 k0;exact CallP.mono (z94 (((h2.mono ((((b.trans e).trans k).trans u).trans o)).mono C).mono hq) ((z8d (ze8 0 rfl I) rfl).mono hq) hy) fun v R2 _ hv=>fq.2 hv) W) fun aI X=>?_
 obtain rfl:=X;refine q9 (ai rfl) (za (zz rfl a (fun a=>?_) (fun a=>?_)));refine zq (zh (.bool false) (zh (vi 0) (za (qi ?_))));replace d:=z04 a d;obtain rfl:=Option.some.inj d
 refine qd (D:=[]) (J:=[box p [(vi (ix B s))] 3]) (rs:=[.tmp 4,.tmp 5]) (vs:=[(.bool false),(vi 0)]) (((((j.trans b).trans e).trans k).trans u).trans o) rfl rfl ⟨rfl,rfl,trivial⟩ ?_;exact⟨rfl,rfl⟩;refine qb (zy ?_);obtain⟨Y,a⟩:=zb a;refine q9 (j3 rfl rfl Y) (ze (vi (s+1)) (za ?_))
 exact⟨dkt,(RH.le.refl _),jh,(F,s+1),Nat.lt_succ_self _,⟨rfl,trivial⟩,⟨[box p [(vi (ix B s))] 3],(List.Perm.refl _)⟩,a,trivial⟩;refine jf ?_;exact⟨dkt,(u.trans o),jh,(),trivial,prm,(Option.some.inj a).symm,trivial⟩;rintro bk aJ bl Z ⟨rfl,_⟩;replace d:=z0t d
 refine zq (zh (.bool true) (zh (vi 0) (za (qi ?_))));obtain rfl:=Option.some.inj d;refine qd (D:=[]) (J:=[]) (rs:=[.tmp 4,.tmp 5]) (vs:=[(.bool true),(vi 0)]) ((((j.trans b).trans e).trans k).trans Z) rfl rfl ⟨rfl,rfl,trivial⟩ ?_;exact⟨rfl,rfl⟩
theorem znv:Enters prog 12:=enters_of func12 rfl (by kernel_rfl)
theorem z7m{N:Nat}{R:RH}{x:Sa}{s:Value}(w:VRep (zu false false) R s x){y:(List Int)}{m:Value}(G:VRep (tSl false (zx .i64)) R m y){r:Bool}(o:z07 N x y=some r):CallP prog 13 #[s,m] R (fun v R'=>v=(.bool r)):=by
 refine ql (args:=[s,m]) func13 rfl rfl fun A=>?_;rw [z07] at o;refine zq (xy (T:=(zu false false)) rfl rfl rfl w fun v1 R3 p h5 h2=>?_);refine zh (.bool false) (za ?_);obtain⟨U,b,o⟩:=zt o;refine qo (γ:=Unit) (rs [4,37]) (fun g=>[]) (fun g=>[]++A) (fun g R=>U=Ex.go g∧True) ?_ ?_
 refine zq (zh (vi 0) (za (qc (jb (γ:=Nat×Int) (rs [4,37]) (fun g=>[(5,(vi g.2))]) (fun g=>[]++A) (fun g R=>yh N x y g.1 g.2=some U∧True) (fun g=>g.1) (N,0) prm ⟨b,trivial⟩ ?_))));clear b;rintro⟨C,j⟩ am an d ⟨b,_⟩;rcases C with _|C;exact qw b
 replace b:yh N x y (C+1) j=some U:=b;rw [yh] at b;refine q8 (zq (ze (vi j) (p8 rfl fu qy rfl (h2.mono d) fun ao V=>?_)));refine j5 rfl z3v rfl V fun ap W=>?_
 refine q9 (qm rfl underlying25 rfl (jq W)) (q9 (je rfl rfl) (za (zz rfl b (fun b=>?_) (fun b=>?_))));refine qb (q8 (qc (zq (q9 (jk z0i rfl rfl (h5.mono d) (w.mono (p.trans d))) (ze (vi j) ?_)))));obtain⟨L,X,b⟩:=zt b
 refine ja rfl zqf rfl (z7g (w.mono (p.trans d)) X) fun aq ar k Y=>?_;obtain rfl:=Y;refine q9 (ai rfl) (zh (.bool (!L)) (za ?_));obtain⟨z,c,b⟩:=zt b;refine qo (γ:=Bool) (rs [6,8,19,35]) (fun g=>[(6,(.bool g))]) (fun g=>[]++A) (fun g R=>z=g∧True) ?_ ?_
 refine zq (zh (vi 0) (za (qc (jb (γ:=Nat×Bool×Int) (rs [6,8,19,35]) (fun g=>[(6,(.bool g.2.1)),(7,(vi g.2.2))]) (fun g=>[]++A) (fun g R=>xk N x y j g.1 g.2.1 g.2.2=some z∧True) (fun g=>g.1) (N,!L,0) prm ⟨c,trivial⟩ ?_))));clear c;rintro⟨E,a,e⟩ au av n ⟨c,_⟩;rcases E with _|E
 exact qw c;replace c:xk N x y j (E+1) a e=some z:=c;rw [xk] at c;refine q8 (zq (ze (vi e) (ze m (q9 (qm rfl underlying33 rfl (jq (G.mono (((p.trans d).trans k).trans n)))) (q9 (je rfl rfl) (za (zz rfl c (fun c=>?_) (fun c=>?_))))))))
 refine qb (q8 (qc ?_));obtain⟨M,c⟩:=zb c;obtain⟨B,Z,c⟩:=zt c
 refine ni 10 [] [phX (.bool a),phX (.bool a),phG (true&&(a==false)) (phX s),phG (true&&(a==false)) (phX (vi j)),phG (true&&(a==false)) (phX m),phG (true&&(a==false)) (phX (vi e)),phG (true&&(a==false)) (phP (zx .i64) (ix y e)),phG (true&&(a==false)) (phX (vi (ix y e))),phG (true&&(a==false)) (phX (.bool (B.getD default))),phX (.bool (a||(B.getD default)))] mixed (by kernel_rfl) (gy ⟨zf,zf,(qg zf),(qg zf),(qg zf),(qg zf),(qg z0w),(qg zf),(qg zf),zf,trivial⟩) ⟨?_,?_,?_,?_,?_,?_,?_,?_,?_,?_,trivial⟩ fun aw O=>?_
 intro l ax f u hd;exact zg rfl rfl rfl (zk (z8 (u 6 rfl)));rintro l ay f u ⟨q,_⟩;exact zg rfl rfl rfl (zk (z8 (q rfl)));rintro l az f u ⟨q,_⟩
 exact zm (Gj:=true) (Bj:=a) rfl rfl rfl (jc (q rfl)) rfl (fun F t=>zk (jk z0i rfl (u 2 rfl) ((h5.mono ((d.trans k).trans n)).mono f) ((w.mono (((p.trans d).trans k).trans n)).mono f)));rintro l aA f u ⟨q,_⟩;exact zm (Gj:=true) (Bj:=a) rfl rfl rfl (jc (q rfl)) rfl (fun F t=>zk (z8 (u 5 rfl)))
 rintro l aB f u ⟨q,_⟩;exact zm (Gj:=true) (Bj:=a) rfl rfl rfl (jc (q rfl)) rfl (fun F t=>zk (z8 (u 1 rfl)));rintro l aC f u ⟨q,_⟩;exact zm (Gj:=true) (Bj:=a) rfl rfl rfl (jc (q rfl)) rfl (fun F t=>zk (z8 (u 7 rfl)));rintro l aD f u ⟨q,I,d2,_⟩
 exact zm (Gj:=true) (Bj:=a) rfl rfl rfl (jc (d2 rfl)) rfl (fun F t=>z0g (i:=e.toNat) z00 (show l 29=m from(q rfl).1 (zl rfl t)) (jq ((G.mono (((p.trans d).trans k).trans n)).mono f)) (zi (show l 30=(vi e) from(I rfl).1 (zl rfl t)) (M (zl F t)).1) (zw (M (zl F t))))
 rintro l aE f u ⟨q,I,_⟩;exact zm (Gj:=true) (Bj:=a) rfl rfl rfl (jc (I rfl)) rfl (fun F t=>j4 (ma ty3 rfl ((q rfl).1 (zl rfl t))) (fun _ _ h=>qa.1 h));rintro l K f u ⟨q,I,d2,d3,d4,_⟩;have P:phG (true&&(a==false)) (phX s) (l 27) K:=q rfl
 have Q:phG (true&&(a==false)) (phX (vi j)) (l 28) K:=I rfl;have S:phG (true&&(a==false)) (phX (vi (ix y e))) (l 32) K:=d2 rfl
 exact zm (Gj:=true) (Bj:=a) rfl rfl rfl (jc (d3 rfl)) rfl (fun F t=>uk (vs:=[s,(vi j),(vi (ix y e))]) zoh (by simp only [List.map,ev,(show l 27=s from P.1 (zl rfl t)),(show l 28=(vi j) from Q.1 (zl rfl t)),(show l 32=(vi (ix y e)) from S.1 (zl rfl t))]<;>rfl) ((by have ab:=(af Z (zl F t));exact z3x ((w.mono (((p.trans d).trans k).trans n)).mono f) ab)) (fun _ _ h=>h))
 rintro l aG f u ⟨q,I,_⟩;exact zg rfl rfl rfl (zk (gz (q rfl) rfl (fun hb=>(show l 33=(.bool (B.getD default)) from(I rfl).1 (zl rfl hb)))));intro aI ac aJ ad aK aL aM aN aO aP aQ aR aS aT aU aV aW aX aY ae;obtain rfl:=Eq.symm ac;obtain rfl:=Eq.symm ad;obtain rfl:=Eq.symm ae
 refine zh (.bool (a||(B.getD default))) (za (zy (ze (vi e) ?_)));obtain⟨ag,c⟩:=zb c;refine q9 (j3 rfl rfl ag) (zh (vi (e+1)) (za ?_));exact⟨dkt,O,jh,(E,a||(B.getD default),e+1),Nat.lt_succ_self _,⟨rfl,rfl,trivial⟩,prm,c,trivial⟩;refine jf ?_
 exact⟨dkt,n,jh,a,⟨rfl,trivial⟩,prm,(Option.some.inj c).symm,trivial⟩;rintro z aZ a0 H ⟨rfl,_⟩;refine zq (ze (.bool z) (q9 (ai rfl) (za (zz rfl b (fun b=>?_) (fun b=>?_)))));refine zq (zh (.bool false) (za (qi ?_)));replace o:=z04 b o;obtain rfl:=Option.some.inj o
 refine qd (D:=[]) (J:=[]) (rs:=[.tmp 4]) (vs:=[(.bool false)]) (((p.trans d).trans k).trans H) rfl rfl ⟨rfl,trivial⟩ ?_;exact⟨rfl,rfl⟩;refine qb (zy (ze (vi j) ?_));obtain⟨ah,b⟩:=zb b;refine q9 (j3 rfl rfl ah) (zh (vi (j+1)) (za ?_))
 exact⟨dkt,(k.trans H),jh,(C,j+1),Nat.lt_succ_self _,⟨rfl,trivial⟩,prm,b,trivial⟩;refine jf ?_;exact⟨dkt,d,jh,(),trivial,prm,(Option.some.inj b).symm,trivial⟩;rintro o6 a1 R8 aj ⟨rfl,_⟩;replace o:=z0t o;refine zq (zh (.bool true) (za (qi ?_)));obtain rfl:=Option.some.inj o
 refine qd (D:=[]) (J:=[]) (rs:=[.tmp 4]) (vs:=[(.bool true)]) (p.trans aj) rfl rfl ⟨rfl,trivial⟩ ?_;exact⟨rfl,rfl⟩
theorem zp9:Enters prog 13:=enters_of func13 rfl (by kernel_rfl)
theorem zg0:ZeroOk prog 65 kEdge (⟨(0:Int),(0:Int)⟩:Edge) 16:=by
 obtain⟨i,zv,hi,a,c,d,f⟩:=z3b (P:=prog) (e:=65) (zv:=(.agg #[(vi 0),(vi 0)])) (k:=2) (b:=16) (by kernel_rfl);exact⟨i,zv,hi,a,c,d,fun R=>by subst f;exact⟨_,_,rfl,rfl,rfl⟩⟩
theorem zlx{a:Bool}:ZeroOk prog 45 (tSl a kEdge) ([]:List Edge) 24:=by
 obtain⟨i,zv,hi,c,d,f,g⟩:=z3b (P:=prog) (e:=45) (zv:=vs0) (k:=1) (b:=24) (by kernel_rfl);exact⟨i,zv,hi,c,d,f,fun R=>by subst g;exact(ky rfl z1b)⟩
theorem zj5: ∀ w,∃ z,(zeroValue 48).run prog w= .ok z w∧z.cells=([.int .i64 0,.int .i64 0,.slice none 0 0]:List Value).toArray:=fun w=>⟨(.agg #[(vi 0),(vi 0),vs0]),by kernel_rfl,rfl⟩
theorem zbi: ∀ w,(sizeOf 48).run prog w= .ok 3 w:=fun w=>by kernel_rfl
theorem zii: ∀ w,(isAgg 48).run prog w= .ok true w:=fun w=>by kernel_rfl
theorem zqj{a c:Bool}:ZeroOk prog 48 (z0l a c) (⟨(0:Int),(0:Int),([]:List (List Edge))⟩:Mach) 40:=by
 obtain⟨i,zv,hi,d,f,g,h⟩:=z3b (P:=prog) (e:=48) (zv:=(.agg #[(vi 0),(vi 0),vs0])) (k:=3) (b:=40) (by kernel_rfl);exact⟨i,zv,hi,d,f,g,fun R=>by subst h;exact⟨_,_,rfl,rfl,⟨_,_,rfl,rfl,(ky rfl z1b)⟩⟩⟩
theorem zc2{a b:Bool}:TyOk prog 48 (z0l a b):=by
 obtain⟨i,hi,c⟩: ∃ i,prog.info? 48=some i∧i.size=3:=si (by kernel_rfl);exact z2n underlying48 hi rfl c
theorem z9n:FieldOk prog 48 0 0:=by
 obtain⟨i,hi,a⟩: ∃ i,prog.info? 3=some i∧i.size=1:=si (by kernel_rfl);exact z3y underlying48 rfl rfl hi (by rw [a];rfl)
theorem zh3:FieldOk prog 48 1 1:=by
 obtain⟨i,hi,a⟩: ∃ i,prog.info? 3=some i∧i.size=1:=si (by kernel_rfl);exact z3y underlying48 rfl rfl hi (by rw [a];rfl)
theorem zb2:FieldOk prog 48 2 2:=by
 obtain⟨i,hi,a⟩: ∃ i,prog.info? 46=some i∧i.size=1:=si (by kernel_rfl);exact z3y underlying48 rfl rfl hi (by rw [a];rfl)
theorem zir{a b:Bool}:TyOk prog 46 (tSl a (tSl b kEdge)):=by
 obtain⟨i,hi,c⟩: ∃ i,prog.info? 46=some i∧i.size=1:=si (by kernel_rfl);exact z2n underlying46 hi rfl c
theorem zn7{a:Bool}:TyOk prog 45 (tSl a kEdge):=by
 obtain⟨i,hi,b⟩: ∃ i,prog.info? 45=some i∧i.size=1:=si (by kernel_rfl);exact z2n underlying45 hi rfl b
theorem zor{a:Bool}:SlOk prog 46 45 (tSl a kEdge):=⟨underlying46,zn7⟩
theorem zjl:TyOk prog 65 kEdge:=by
 obtain⟨i,hi,a⟩: ∃ i,prog.info? 65=some i∧i.size=2:=si (by kernel_rfl);exact z2n underlying65 hi rfl a
theorem zof:SlOk prog 45 65 kEdge:=⟨underlying45,zjl⟩
theorem z5b{N:Nat}{R:RH}{s:(List Edge)}{c:Value}(k:VRep (tSl false kEdge) R c s){f:Edge→Option Bool}{e:Value}(n:FOk1 prog R e kEdge z3g f){r:Int}(b:z0n N s f=some r):CallP prog 76 #[c,e] R (fun v R'=>v=(vi r)):=by
 refine ql (args:=[c,e]) func76 rfl rfl fun A=>?_;rw [z0n] at b;refine zq (zh (vi 0) (za ?_));obtain⟨o,a,b⟩:=zt b;refine qo (γ:=Unit) (rs [4,19]) (fun g=>[]) (fun g=>[]++A) (fun g R=>o=Ex.go g∧True) ?_ ?_
 refine zq (ze c (q9 (qm rfl underlying45 rfl (jq k)) (ze (vi 0) (za (qc (jb (γ:=Nat×Int) (rs [4,6,8,19]) (fun g=>[(8,(vi g.2))]) (fun g=>[]++A) (fun g R=>o8 N s f g.1 g.2=some o∧True) (fun g=>g.1) (N,0) prm ⟨a,trivial⟩ ?_))))));clear a;rintro⟨m,d⟩ y H h ⟨a,_⟩
 rcases m with _|m;exact qw a;replace a:o8 N s f (m+1) d=some o:=a;rw [o8] at a;refine zq (q9 (je rfl rfl) (za (q8 (zz rfl a (fun a=>?_) (fun a=>?_)))))
 refine qb (q8 (qc (zq (ze (vi d) (zh (vi d) (qz (ze e (ze c (ze (vi d) ?_)))))))));obtain⟨l,a⟩:=zb a;refine kz (i:=d.toNat) rfl zof rfl (jq (k.mono h)) (zi rfl l.1) (zw l) fun z p=>?_;refine j5 rfl zjl rfl p fun B q=>?_;obtain rfl:=z3a.1 q
 obtain⟨C,t,a⟩:=zt a;refine z6o rfl rfl rfl ((n.mono h) _ (RH.le.refl _) (ix s d) _ _ (z3a.2 rfl) t) fun E F j u=>?_;obtain rfl:=fq.1 u;refine za (zz rfl a (fun a=>?_) (fun a=>?_));refine zq (ze (vi d) (zh (vi d) (za (qi ?_))));replace b:=z04 a b;obtain rfl:=Option.some.inj b
 refine qd (D:=[]) (J:=[]) (rs:=[.tmp 4]) (vs:=[(vi d)]) (h.trans j) rfl rfl ⟨rfl,trivial⟩ ?_;exact⟨rfl,rfl⟩;refine qb (zy ?_);obtain⟨w,a⟩:=zb a;refine q9 (j3 rfl rfl w) (ze (vi (d+1)) (za ?_));exact⟨dkt,j,jh,(m,d+1),Nat.lt_succ_self _,⟨rfl,trivial⟩,prm,a,trivial⟩;refine jf ?_
 exact⟨dkt,h,jh,(),trivial,prm,(Option.some.inj a).symm,trivial⟩;rintro I G K x ⟨rfl,_⟩;replace b:=z0t b;refine zq (zh (vi (-1)) (za (qi ?_)));obtain rfl:=Option.some.inj b;refine qd (D:=[]) (J:=[]) (rs:=[.tmp 4]) (vs:=[(vi (-1))]) x rfl rfl ⟨rfl,trivial⟩ ?_;exact⟨rfl,rfl⟩
theorem zq9:Enters prog 76:=enters_of func76 rfl (by kernel_rfl)
theorem z4h{N:Nat}{R:RH}{s:(List Edge)}{a:Value}(d:VRep (tSl false kEdge) R a s){f:Edge→Option Bool}{b:Value}(e:FOk1 prog R b kEdge z3g f){r:Bool}(c:z0c N s f=some r):CallP prog 56 #[a,b] R (fun v R'=>v=(.bool r)):=by
 refine ql (args:=[a,b]) func56 rfl rfl fun A=>?_;rw [z0c] at c;refine zq (zh (.bool false) (qz (ze a (ze b ?_))));obtain⟨h,i,c⟩:=zt c;refine ja rfl zq9 rfl (z5b d e i) fun k l g j=>?_;obtain rfl:=j
 refine q9 (aj rfl rfl) (zh (.bool (decide (0≤h))) (za (qi ?_)));obtain rfl:=Option.some.inj c;refine qd (D:=[]) (J:=[]) (rs:=[.tmp 4]) (vs:=[(.bool (decide (0≤h)))]) g rfl rfl ⟨rfl,trivial⟩ ?_;exact⟨rfl,rfl⟩
theorem zqg:Enters prog 56:=enters_of func56 rfl (by kernel_rfl)
theorem zoz: ∀ w,∃ z,(zeroValue 65).run prog w= .ok z w∧z.cells=([.int .i64 0,.int .i64 0]:List Value).toArray:=fun w=>⟨(.agg #[(vi 0),(vi 0)]),by kernel_rfl,rfl⟩
theorem zlr: ∀ w,(sizeOf 65).run prog w= .ok 2 w:=fun w=>by kernel_rfl
theorem zpp: ∀ w,(isAgg 65).run prog w= .ok true w:=fun w=>by kernel_rfl
theorem z7t{N:Nat}{R:RH}  {r:Edge} (a:z4j N  =some r):CallP prog 77 #[] R (fun v R'=>v=(z4o r)):=by
 refine ql (args:=[]) func77 rfl rfl fun A=>?_;rw [z4j] at a;refine zq (fe rfl zoz fun b=>?_)
 refine qz (q9 (il (ps:=[(0,(vi (-1))),(1,(vi (-1)))]) (v:=(.agg #[(vi (-1)),(vi (-1))])) rfl (fun w=>by kernel_rfl)) (pu (i:=0) (vs:=[(vi (-1)),(vi (-1))]) zlr rfl rfl rfl rfl rfl rfl (uf rfl (uf rfl om)) ?_));refine za (qi ?_);obtain rfl:=Option.some.inj a
 refine qd (D:=[]) (J:=[box b [(vi (-1)),(vi (-1))] 65]) (rs:=[.cell 0 65]) (vs:=[(.agg #[(vi (-1)),(vi (-1))])]) (RH.le.refl _) rfl rfl ⟨⟨_,rfl,fun w c=>z2y (i:=0) c rfl rfl zpp zlr rfl rfl⟩,trivial⟩ ?_;exact⟨rfl,rfl⟩
theorem zoo:Enters prog 77:=enters_of func77 rfl (by kernel_rfl)
theorem zqo:zk7 prog 65:=zey (f0:=((prog.fieldsOf 65).toList.getD 0 default)) (f1:=((prog.fieldsOf 65).toList.getD 1 default)) (by kernel_rfl) (by kernel_rfl) (by kernel_rfl) (by kernel_rfl) (by kernel_rfl) (by kernel_rfl) (by kernel_rfl) (by kernel_rfl) (by kernel_rfl) (by kernel_rfl)
theorem zhc:FieldOk prog 65 0 0:=by
 obtain⟨i,hi,a⟩: ∃ i,prog.info? 3=some i∧i.size=1:=si (by kernel_rfl);exact z3y underlying65 rfl rfl hi (by rw [a];rfl)
theorem zhg:FieldOk prog 65 1 1:=by
 obtain⟨i,hi,a⟩: ∃ i,prog.info? 3=some i∧i.size=1:=si (by kernel_rfl);exact z3y underlying65 rfl rfl hi (by rw [a];rfl)
theorem zbn{N:Nat}{R:RH}{m:Mach}{p:Value}(w:VRep (z0l false false) R p m){x:Edge}{r:Bool}(n:z6k N m x=some r):CallP prog 58 #[p,(z4o x)] R (fun v R'=>v=(.bool r)):=by
 refine ql (args:=[p,(z4o x)]) func58 rfl rfl fun A=>?_;rw [z6k] at n;refine zq (xy (T:=(z0l false false)) rfl rfl rfl w fun v1 R3 y h5 K=>?_);refine zal (T:=kEdge) rfl rfl (z3a.2 rfl) fun v6 R8 q t=>?_;refine zh (.bool false) (za (q8 ?_));obtain⟨b,z,n⟩:=zt n
 let B:=((decide (x.to=b.to∧x.out=b.out))||((((decide (0≤x.to))&&(decide (x.to<(↑m.rows.length:Int))))&&(decide (0≤x.out)))&&(decide (x.out<m.outputs))));let L:=((((decide (0≤x.to))&&(decide (x.to<(↑m.rows.length:Int))))&&(decide (0≤x.out)))&&(decide (x.out<m.outputs)))
 let o:=(((decide (0≤x.to))&&(decide (x.to<(↑m.rows.length:Int))))&&(decide (0≤x.out)));let k:=((decide (0≤x.to))&&(decide (x.to<(↑m.rows.length:Int))));let e:=(true&&((decide (x.to=b.to∧x.out=b.out))==false))
 refine ni 29 [] [phX (z4o x),phX (z4o b),phX (.bool (decide (x.to=b.to∧x.out=b.out))),phX (.bool (decide (x.to=b.to∧x.out=b.out))),phG e (phP (zx .i64) x.to),phG e (phX (vi x.to)),phG e (phX (.bool (decide (0≤x.to)))),phG e (phX (.bool (decide (0≤x.to)))),phG (e&&((decide (0≤x.to))==true)) (phP (zx .i64) x.to),phG (e&&((decide (0≤x.to))==true)) (phX (vi x.to)),phG (e&&((decide (0≤x.to))==true)) (phP (tSl false (tSl false kEdge)) m.rows),phG (e&&((decide (0≤x.to))==true)) (phR (tSl false (tSl false kEdge)) m.rows),phG (e&&((decide (0≤x.to))==true)) (phX (vi (↑m.rows.length:Int))),phG (e&&((decide (0≤x.to))==true)) (phX (.bool (decide (x.to<(↑m.rows.length:Int))))),phG e (phX (.bool k)),phG e (phX (.bool k)),phG (e&&(k==true)) (phP (zx .i64) x.out),phG (e&&(k==true)) (phX (vi x.out)),phG (e&&(k==true)) (phX (.bool (decide (0≤x.out)))),phG e (phX (.bool o)),phG e (phX (.bool o)),phG (e&&(o==true)) (phP (zx .i64) x.out),phG (e&&(o==true)) (phX (vi x.out)),phG (e&&(o==true)) (phP (zx .i64) m.outputs),phG (e&&(o==true)) (phX (vi m.outputs)),phG (e&&(o==true)) (phX (.bool (decide (x.out<m.outputs)))),phG e (phX (.bool L)),phX (.bool B),phX (.bool B)] mixed (by kernel_rfl) (gy ⟨zf,zf,zf,zf,(qg z0w),(qg zf),(qg zf),(qg zf),(qg z0w),(qg zf),(qg z0w),(qg z1w),(qg zf),(qg zf),(qg zf),(qg zf),(qg z0w),(qg zf),(qg zf),(qg zf),(qg zf),(qg z0w),(qg zf),(qg z0w),(qg zf),(qg zf),(qg zf),zf,zf,trivial⟩) ⟨?_,?_,?_,?_,?_,?_,?_,?_,?_,?_,?_,?_,?_,?_,?_,?_,?_,?_,?_,?_,?_,?_,?_,?_,?_,?_,?_,?_,?_,trivial⟩ fun ai u=>?_
 intro l ak a g hd;exact zg rfl rfl rfl (j4 (ma zjl (g 3 rfl) (t.mono a)) (fun _ _ h=>z3a.1 h));intro l am a g hd;exact zg rfl rfl rfl (uk (vs:=[]) zoo rfl (z7t  z) (fun _ _ h=>h));rintro l an a g ⟨c,f,_⟩;exact zg rfl rfl rfl (zk (zla zqo (c rfl) (f rfl)));rintro l ao a g ⟨c,f,_⟩
 exact zg rfl rfl rfl (zk (z8 (c rfl)));rintro l ap a g ⟨c,_⟩;exact zm (Gj:=true) (Bj:=decide (x.to=b.to∧x.out=b.out)) rfl rfl rfl (jc (c rfl)) rfl (fun i d=>z2x zhc zfz (g 3 rfl) (t.mono a));rintro l aq a g ⟨c,f,_⟩
 exact zm (Gj:=true) (Bj:=decide (x.to=b.to∧x.out=b.out)) rfl rfl rfl (jc (f rfl)) rfl (fun i d=>j4 (ma ty3 rfl ((c rfl).1 (zl rfl d))) (fun _ _ h=>qa.1 h));rintro l ar a g ⟨c,f,_⟩
 exact zm (Gj:=true) (Bj:=decide (x.to=b.to∧x.out=b.out)) rfl rfl rfl (jc (f rfl)) rfl (fun i d=>zk (aj (show l 10=(vi x.to) from(c rfl).1 (zl rfl d)) rfl));rintro l au a g ⟨c,f,j,_⟩
 exact zm (Gj:=true) (Bj:=decide (x.to=b.to∧x.out=b.out)) rfl rfl rfl (jc (f rfl)) rfl (fun i d=>zk (z8 (show l 11=(.bool (decide (0≤x.to))) from(c rfl).1 (zl rfl d))));rintro l av a g ⟨c,_⟩;exact zm (Gj:=e) (Bj:=decide (0≤x.to)) rfl rfl rfl (c rfl) rfl (fun i d=>z2x zhc zfz (g 3 rfl) (t.mono a))
 rintro l aw a g ⟨c,f,_⟩;exact zm (Gj:=e) (Bj:=decide (0≤x.to)) rfl rfl rfl (f rfl) rfl (fun i d=>j4 (ma ty3 rfl ((c rfl).1 (zl i d))) (fun _ _ h=>qa.1 h));rintro l M a g ⟨c,_⟩;exact zm (Gj:=e) (Bj:=decide (0≤x.to)) rfl rfl rfl (c rfl) rfl (fun i d=>z2x zb2 z6w (g 2 rfl) ((K.mono q).mono a))
 rintro l O a g ⟨c,f,_⟩;exact zm (Gj:=e) (Bj:=decide (0≤x.to)) rfl rfl rfl (f rfl) rfl (fun i d=>ma zir rfl ((c rfl).1 (zl i d)));rintro l P a g ⟨c,f,_⟩;exact zm (Gj:=e) (Bj:=decide (0≤x.to)) rfl rfl rfl (f rfl) rfl (fun i d=>zk (qm rfl underlying46 rfl (jq ((c rfl).1 (zl i d)))))
 rintro l Q a g ⟨c,f,j,_⟩;exact zm (Gj:=e) (Bj:=decide (0≤x.to)) rfl rfl rfl (j rfl) rfl (fun i d=>zk (je (show l 14=(vi x.to) from(c rfl).1 (zl i d)) (show l 17=(vi (↑m.rows.length:Int)) from(f rfl).1 (zl i d))));rintro l S a g ⟨c,f,j,_⟩
 exact zm (Gj:=true) (Bj:=decide (x.to=b.to∧x.out=b.out)) rfl rfl rfl (jc (j rfl)) rfl (fun i d=>zk (dh (show l 12=(.bool (decide (0≤x.to))) from(c rfl).1 (zl rfl d)) (fun s=>(show l 18=(.bool (decide (x.to<(↑m.rows.length:Int)))) from(f rfl).1 (zl (zl rfl d) s))) rfl));rintro l U a g ⟨c,f,j,_⟩
 exact zm (Gj:=true) (Bj:=decide (x.to=b.to∧x.out=b.out)) rfl rfl rfl (jc (j rfl)) rfl (fun i d=>zk (z8 (show l 19=(.bool k) from(c rfl).1 (zl rfl d))));rintro l V a g ⟨c,_⟩
 exact zm (Gj:=e) (Bj:=(decide (0≤x.to))&&(decide (x.to<(↑m.rows.length:Int)))) rfl rfl rfl (c rfl) rfl (fun i d=>z2x zhg zf5 (g 3 rfl) (t.mono a));rintro l W a g ⟨c,f,_⟩
 exact zm (Gj:=e) (Bj:=(decide (0≤x.to))&&(decide (x.to<(↑m.rows.length:Int)))) rfl rfl rfl (f rfl) rfl (fun i d=>j4 (ma ty3 rfl ((c rfl).1 (zl i d))) (fun _ _ h=>qa.1 h));rintro l X a g ⟨c,f,_⟩
 exact zm (Gj:=e) (Bj:=(decide (0≤x.to))&&(decide (x.to<(↑m.rows.length:Int)))) rfl rfl rfl (f rfl) rfl (fun i d=>zk (aj (show l 22=(vi x.out) from(c rfl).1 (zl i d)) rfl));rintro l Y a g ⟨c,f,j,_⟩
 exact zm (Gj:=true) (Bj:=decide (x.to=b.to∧x.out=b.out)) rfl rfl rfl (jc (j rfl)) rfl (fun i d=>zk (dh (show l 20=(.bool k) from(c rfl).1 (zl rfl d)) (fun s=>(show l 23=(.bool (decide (0≤x.out))) from(f rfl).1 (zl (zl rfl d) s))) rfl));rintro l Z a g ⟨c,f,j,_⟩
 exact zm (Gj:=true) (Bj:=decide (x.to=b.to∧x.out=b.out)) rfl rfl rfl (jc (j rfl)) rfl (fun i d=>zk (z8 (show l 24=(.bool o) from(c rfl).1 (zl rfl d))));rintro l aa a g ⟨c,_⟩;exact zm (Gj:=e) (Bj:=k&&(decide (0≤x.out))) rfl rfl rfl (c rfl) rfl (fun i d=>z2x zhg zf5 (g 3 rfl) (t.mono a))
 rintro l ab a g ⟨c,f,_⟩;exact zm (Gj:=e) (Bj:=k&&(decide (0≤x.out))) rfl rfl rfl (f rfl) rfl (fun i d=>j4 (ma ty3 rfl ((c rfl).1 (zl i d))) (fun _ _ h=>qa.1 h));rintro l ac a g ⟨c,_⟩
 exact zm (Gj:=e) (Bj:=k&&(decide (0≤x.out))) rfl rfl rfl (c rfl) rfl (fun i d=>z2x zh3 zc0 (g 2 rfl) ((K.mono q).mono a));rintro l ad a g ⟨c,f,_⟩;exact zm (Gj:=e) (Bj:=k&&(decide (0≤x.out))) rfl rfl rfl (f rfl) rfl (fun i d=>j4 (ma ty3 rfl ((c rfl).1 (zl i d))) (fun _ _ h=>qa.1 h))
 rintro l ae a g ⟨c,f,j,_⟩;exact zm (Gj:=e) (Bj:=k&&(decide (0≤x.out))) rfl rfl rfl (j rfl) rfl (fun i d=>zk (je (show l 27=(vi x.out) from(c rfl).1 (zl i d)) (show l 29=(vi m.outputs) from(f rfl).1 (zl i d))));rintro l af a g ⟨c,f,j,_⟩
 exact zm (Gj:=true) (Bj:=decide (x.to=b.to∧x.out=b.out)) rfl rfl rfl (jc (j rfl)) rfl (fun i d=>zk (dh (show l 25=(.bool o) from(c rfl).1 (zl rfl d)) (fun s=>(show l 30=(.bool (decide (x.out<m.outputs))) from(f rfl).1 (zl (zl rfl d) s))) rfl));rintro l ag a g ⟨c,f,_⟩
 exact zg rfl rfl rfl (zk (gz (c rfl) rfl (fun s=>(show l 31=(.bool L) from(f rfl).1 (zl rfl s)))));rintro l ah a g ⟨c,f,j,d3,d4,d5,d6,d7,d8,d9,ax,ay,az,aA,aB,aC,aD,aE,aF,aG,aH,aI,aJ,aK,aL,aM,aN,aO,aP,aQ,_⟩;exact zg rfl rfl rfl (zk (l9 (c rfl)))
 intro aR C aS E aT F aU G aV aW aX aY aZ a0 a1 a2 a3 a4 a5 a6 a7 a8 a9 ba bb bc be bf bg bh bi bj bk bl bm bn bo bp bq br bs bt bu bv bw bx bz bA bB bC bD bE bF bG bH H bI I;obtain rfl:=Eq.symm C;obtain rfl:=Eq.symm E;obtain rfl:=Eq.symm F;obtain rfl:=Eq.symm G;obtain rfl:=Eq.symm H;obtain rfl:=Eq.symm I
 refine za (qi ?_);obtain rfl:=Option.some.inj n;refine qd (D:=[]) (J:=[]) (rs:=[.tmp 4]) (vs:=[(.bool B)]) ((y.trans q).trans u) rfl rfl ⟨rfl,trivial⟩ ?_;exact⟨rfl,rfl⟩
end GV
end Go.Proofs.Ytkhihcleegljhaa
