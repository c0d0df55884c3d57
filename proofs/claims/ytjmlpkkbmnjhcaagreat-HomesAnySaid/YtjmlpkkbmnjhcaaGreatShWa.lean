import Derived.Test.YtjmlpkkbmnjhcaaGreatShPlain
import Derived.Test.YtjmlpkkbmnjhcaaGreatRows
set_option linter.unusedVariables false
set_option linter.unusedSimpArgs false
set_option linter.unusedSectionVars false
namespace Go.Proofs.YtjmlpkkbmnjhcaaGreat
namespace GV
open _root_.Go.Proofs.Tryz
open Go.IntWalk
set_option maxRecDepth 100000
set_option maxHeartbeats 20000000
theorem zjc: ∀ w,∃ z,(zeroValue 28).run prog w= .ok z w∧z.cells=([.int .i64 0,.int .i64 0,.slice none 0 0]:List Value).toArray:=fun w=>⟨(.agg #[(vi 0),(vi 0),vs0]),by kernel_rfl,rfl⟩
theorem ty5:TyOk prog 5 (zz .u8):=by
 obtain⟨i,hi,a⟩: ∃ i,prog.info? 5=some i∧i.size=1:=uy (by kernel_rfl);exact z5p underlying5 hi rfl a
theorem z1q: ∀ w,(sizeOf 28).run prog w= .ok 3 w:=fun w=>by kernel_rfl
theorem z1k:FieldOk prog 28 0 0:=by
 obtain⟨i,hi,a⟩: ∃ i,prog.info? 3=some i∧i.size=1:=uy (by kernel_rfl);exact dn underlying28 rfl rfl hi (by rw [a];rfl)
theorem ag3: ∀ w,(isAgg 3).run prog w= .ok false w:=fun w=>by kernel_rfl
theorem q37{a:Bool}:TyOk prog 23 (tSl a (zz .u16)):=by
 obtain⟨i,hi,b⟩: ∃ i,prog.info? 23=some i∧i.size=1:=uy (by kernel_rfl);exact z5p underlying23 hi rfl b
theorem og:TyOk prog 68 (zz .u16):=by
 obtain⟨i,hi,a⟩: ∃ i,prog.info? 68=some i∧i.size=1:=uy (by kernel_rfl);exact z5p underlying68 hi rfl a
theorem o7:SlOk prog 23 68 (zz .u16):=⟨underlying23,og⟩
theorem zfg:FieldOk prog 28 1 1:=by
 obtain⟨i,hi,a⟩: ∃ i,prog.info? 3=some i∧i.size=1:=uy (by kernel_rfl);exact dn underlying28 rfl rfl hi (by rw [a];rfl)
theorem zjz:ZeroOk prog 66 kEdge (⟨(0:Int),(0:Int)⟩:Edge) 16:=by
 obtain⟨i,zv,hi,a,c,d,f⟩:=z4z (P:=prog) (e:=66) (zv:=(.agg #[(vi 0),(vi 0)])) (k:=2) (b:=16) (by kernel_rfl);exact⟨i,zv,hi,a,c,d,fun R=>by subst f;exact⟨_,_,rfl,rfl,rfl⟩⟩
theorem mixed:prog.follows .mixedOrders=true:=by kernel_rfl
theorem xh:FieldOk prog 28 2 2:=by
 obtain⟨i,hi,a⟩: ∃ i,prog.info? 26=some i∧i.size=1:=uy (by kernel_rfl);exact dn underlying28 rfl rfl hi (by rw [a];rfl)
theorem zjf: ∀ w,(isAgg 26).run prog w= .ok false w:=fun w=>by kernel_rfl
theorem q30{a:Bool}:ZeroOk prog 63 (tSl a kEdge) ([]:List Edge) 24:=by
 obtain⟨i,zv,hi,c,d,f,g⟩:=z4z (P:=prog) (e:=63) (zv:=vs0) (k:=1) (b:=24) (by kernel_rfl);exact⟨i,zv,hi,c,d,f,fun R=>by subst g;exact(kg rfl z3j)⟩
theorem q8a: ∀ w,(sizeOf 26).run prog w= .ok 1 w:=fun w=>by kernel_rfl
theorem zdn{a:Bool}:TyOk prog 63 (tSl a kEdge):=by
 obtain⟨i,hi,b⟩: ∃ i,prog.info? 63=some i∧i.size=1:=uy (by kernel_rfl);exact z5p underlying63 hi rfl b
theorem zeg{a:Bool}:SlOk prog 26 63 (tSl a kEdge):=⟨underlying26,zdn⟩
theorem zrn:TyOk prog 66 kEdge:=by
 obtain⟨i,hi,a⟩: ∃ i,prog.info? 66=some i∧i.size=2:=uy (by kernel_rfl);exact z5p underlying66 hi rfl a
theorem zf7:SlOk prog 63 66 kEdge:=⟨underlying63,zrn⟩
theorem z7c:FieldOk prog 66 0 0:=by
 obtain⟨i,hi,a⟩: ∃ i,prog.info? 3=some i∧i.size=1:=uy (by kernel_rfl);exact dn underlying66 rfl rfl hi (by rw [a];rfl)
theorem ty3:TyOk prog 3 (zz .i64):=by
 obtain⟨i,hi,a⟩: ∃ i,prog.info? 3=some i∧i.size=1:=uy (by kernel_rfl);exact z5p underlying3 hi rfl a
theorem zo3:ZeroOk prog 3 (zz .i64) (0:Int) 8:=by
 obtain⟨i,zv,hi,a,c,d,f⟩:=z4z (P:=prog) (e:=3) (zv:=(vi 0)) (k:=1) (b:=8) (by kernel_rfl);exact⟨i,zv,hi,a,c,d,fun R=>by subst f;exact rfl⟩
theorem z3y:SlOk prog 30 3 (zz .i64):=⟨underlying30,ty3⟩
theorem z3w: ∀ w,(isAgg 28).run prog w= .ok true w:=fun w=>by kernel_rfl
theorem z4v{a b:Bool}:TyOk prog 28 (kv a b):=by
 obtain⟨i,hi,c⟩: ∃ i,prog.info? 28=some i∧i.size=3:=uy (by kernel_rfl);exact z5p underlying28 hi rfl c
theorem z4w{a b:Bool}:TyOk prog 26 (tSl a (tSl b kEdge)):=by
 obtain⟨i,hi,c⟩: ∃ i,prog.info? 26=some i∧i.size=1:=uy (by kernel_rfl);exact z5p underlying26 hi rfl c
theorem zb8{N:Nat}{R:RH}{s:(List Edge)}{c:Value}(k:VRep (tSl false kEdge) R c s){f:Edge→Option Bool}{e:Value}(n:FOk1 prog R e kEdge z16 f){r:Int}(b:z1r N s f=some r):CallP prog 125 #[c,e] R (fun v R'=>v=(vi r)):=by
 refine qw (args:=[c,e]) func125 rfl rfl fun A=>?_;rw [z1r] at b;refine zq (zk (vi 0) (ze ?_));obtain⟨o,a,b⟩:=zu b;refine qz (γ:=Unit) (rs [4,19]) (fun g=>[]) (fun g=>[]++A) (fun g R=>o=Ex.go g∧True) ?_ ?_
 refine zq (zh c (zx (j4 rfl underlying63 rfl (jo k)) (zh (vi 0) (ze (qj (jf (γ:=Nat×Int) (rs [4,6,8,19]) (fun g=>[(8,(vi g.2))]) (fun g=>[]++A) (fun g R=>xm N s f g.1 g.2=some o∧True) (fun g=>g.1) (N,0) prm ⟨a,trivial⟩ ?_))))));clear a;rintro⟨m,d⟩ y H h ⟨a,_⟩
 rcases m with _|m;exact j5 a;replace a:xm N s f (m+1) d=some o:=a;rw [xm] at a;refine zq (zx (jg rfl rfl) (ze (qc (zy rfl a (fun a=>?_) (fun a=>?_)))))
 refine qi (qc (qj (zq (zh (vi d) (zk (vi d) (jb (zh e (zh c (zh (vi d) ?_)))))))));obtain⟨l,a⟩:=zg a;refine p8 (i:=d.toNat) rfl zf7 rfl (jo (k.mono h)) (zt rfl l.1) (qd l) fun z p=>?_;refine jc rfl zrn rfl p fun B q=>?_;obtain rfl:=z6p.1 q
 obtain⟨C,t,a⟩:=zu a;refine z5e rfl rfl rfl ((n.mono h) _ (RH.le.refl _) (ix s d) _ _ (z6p.2 rfl) t) fun E F j u=>?_;obtain rfl:=z2s.1 u;refine ze (zy rfl a (fun a=>?_) (fun a=>?_));refine zq (zh (vi d) (zk (vi d) (ze (qp ?_))));replace b:=z02 a b;obtain rfl:=Option.some.inj b
 refine qm (D:=[]) (J:=[]) (rs:=[.tmp 4]) (vs:=[(vi d)]) (h.trans j) rfl rfl ⟨rfl,trivial⟩ ?_;exact⟨rfl,rfl⟩;refine qi (q8 ?_);obtain⟨w,a⟩:=zg a;refine zx (ja rfl rfl w) (zh (vi (d+1)) (ze ?_));exact⟨dkt,j,ji,(m,d+1),Nat.lt_succ_self _,⟨rfl,trivial⟩,prm,a,trivial⟩;refine jk ?_
 exact⟨dkt,h,ji,(),trivial,prm,(Option.some.inj a).symm,trivial⟩;rintro I G K x ⟨rfl,_⟩;replace b:=z1c b;refine zq (zk (vi (-1)) (ze (qp ?_)));obtain rfl:=Option.some.inj b;refine qm (D:=[]) (J:=[]) (rs:=[.tmp 4]) (vs:=[(vi (-1))]) x rfl rfl ⟨rfl,trivial⟩ ?_;exact⟨rfl,rfl⟩
theorem q8g:Enters prog 125:=enters_of func125 rfl (by kernel_rfl)
theorem za5{N:Nat}{R:RH}{s:(List Edge)}{a:Value}(d:VRep (tSl false kEdge) R a s){f:Edge→Option Bool}{b:Value}(e:FOk1 prog R b kEdge z16 f){r:Bool}(c:z0p N s f=some r):CallP prog 104 #[a,b] R (fun v R'=>v=(.bool r)):=by
 refine qw (args:=[a,b]) func104 rfl rfl fun A=>?_;rw [z0p] at c;refine zq (zk (.bool false) (jb (zh a (zh b ?_))));obtain⟨h,i,c⟩:=zu c;refine jh rfl q8g rfl (zb8 d e i) fun k l g j=>?_;obtain rfl:=j
 refine zx (z07 rfl rfl) (zk (.bool (decide (0≤h))) (ze (qp ?_)));obtain rfl:=Option.some.inj c;refine qm (D:=[]) (J:=[]) (rs:=[.tmp 4]) (vs:=[(.bool (decide (0≤h)))]) g rfl rfl ⟨rfl,trivial⟩ ?_;exact⟨rfl,rfl⟩
theorem q9d:Enters prog 104:=enters_of func104 rfl (by kernel_rfl)
theorem zq2: ∀ w,∃ z,(zeroValue 66).run prog w= .ok z w∧z.cells=([.int .i64 0,.int .i64 0]:List Value).toArray:=fun w=>⟨(.agg #[(vi 0),(vi 0)]),by kernel_rfl,rfl⟩
theorem zh5: ∀ w,(sizeOf 66).run prog w= .ok 2 w:=fun w=>by kernel_rfl
theorem q0f: ∀ w,(isAgg 66).run prog w= .ok true w:=fun w=>by kernel_rfl
theorem zb3{N:Nat}{R:RH}  {r:Edge} (a:z4y N  =some r):CallP prog 92 #[] R (fun v R'=>v=(z5i r)):=by
 refine qw (args:=[]) func92 rfl rfl fun A=>?_;rw [z4y] at a;refine zq (r9 rfl zq2 fun b=>?_)
 refine jb (zx (bn (ps:=[(0,(vi (-1))),(1,(vi (-1)))]) (v:=(.agg #[(vi (-1)),(vi (-1))])) rfl (fun w=>by kernel_rfl)) (p9 (i:=0) (vs:=[(vi (-1)),(vi (-1))]) zh5 rfl rfl rfl rfl rfl rfl (jl rfl (jl rfl mq)) ?_));refine ze (qp ?_);obtain rfl:=Option.some.inj a
 refine qm (D:=[]) (J:=[box b [(vi (-1)),(vi (-1))] 66]) (rs:=[.cell 0 66]) (vs:=[(.agg #[(vi (-1)),(vi (-1))])]) (RH.le.refl _) rfl rfl ⟨⟨_,rfl,fun w c=>z94 (i:=0) c rfl rfl q0f zh5 rfl rfl⟩,trivial⟩ ?_;exact⟨rfl,rfl⟩
theorem q5g:Enters prog 92:=enters_of func92 rfl (by kernel_rfl)
theorem q9o:q1i prog 66:=zpw (f0:=((prog.fieldsOf 66).toList.getD 0 default)) (f1:=((prog.fieldsOf 66).toList.getD 1 default)) (by kernel_rfl) (by kernel_rfl) (by kernel_rfl) (by kernel_rfl) (by kernel_rfl) (by kernel_rfl) (by kernel_rfl) (by kernel_rfl) (by kernel_rfl) (by kernel_rfl)
theorem ze5:FieldOk prog 66 1 1:=by
 obtain⟨i,hi,a⟩: ∃ i,prog.info? 3=some i∧i.size=1:=uy (by kernel_rfl);exact dn underlying66 rfl rfl hi (by rw [a];rfl)
theorem zk1{N:Nat}{R:RH}{m:Mach}{p:Value}(w:VRep (kv false false) R p m){x:Edge}{r:Bool}(n:zch N m x=some r):CallP prog 106 #[p,(z5i x)] R (fun v R'=>v=(.bool r)):=by
 refine qw (args:=[p,(z5i x)]) func106 rfl rfl fun A=>?_;rw [zch] at n;refine zq (vv (T:=(kv false false)) rfl rfl rfl w fun v1 R3 y h5 I=>?_);refine zb6 (T:=kEdge) rfl rfl (z6p.2 rfl) fun v6 R8 q t=>?_;refine zk (.bool false) (ze (qc ?_));obtain⟨b,z,n⟩:=zu n
 let G1:=((decide (x.to=b.to∧x.out=b.out))||((((decide (0≤x.to))&&(decide (x.to<(↑m.rows.length:Int))))&&(decide (0≤x.out)))&&(decide (x.out<m.outputs))));let K:=((((decide (0≤x.to))&&(decide (x.to<(↑m.rows.length:Int))))&&(decide (0≤x.out)))&&(decide (x.out<m.outputs)))
 let o:=(((decide (0≤x.to))&&(decide (x.to<(↑m.rows.length:Int))))&&(decide (0≤x.out)));let k:=((decide (0≤x.to))&&(decide (x.to<(↑m.rows.length:Int))));let e:=(true&&((decide (x.to=b.to∧x.out=b.out))==false))
 refine xq 29 [] [phX (z5i x),phX (z5i b),phX (.bool (decide (x.to=b.to∧x.out=b.out))),phX (.bool (decide (x.to=b.to∧x.out=b.out))),phG e (phP (zz .i64) x.to),phG e (phX (vi x.to)),phG e (phX (.bool (decide (0≤x.to)))),phG e (phX (.bool (decide (0≤x.to)))),phG (e&&((decide (0≤x.to))==true)) (phP (zz .i64) x.to),phG (e&&((decide (0≤x.to))==true)) (phX (vi x.to)),phG (e&&((decide (0≤x.to))==true)) (phP (tSl false (tSl false kEdge)) m.rows),phG (e&&((decide (0≤x.to))==true)) (phR (tSl false (tSl false kEdge)) m.rows),phG (e&&((decide (0≤x.to))==true)) (phX (vi (↑m.rows.length:Int))),phG (e&&((decide (0≤x.to))==true)) (phX (.bool (decide (x.to<(↑m.rows.length:Int))))),phG e (phX (.bool k)),phG e (phX (.bool k)),phG (e&&(k==true)) (phP (zz .i64) x.out),phG (e&&(k==true)) (phX (vi x.out)),phG (e&&(k==true)) (phX (.bool (decide (0≤x.out)))),phG e (phX (.bool o)),phG e (phX (.bool o)),phG (e&&(o==true)) (phP (zz .i64) x.out),phG (e&&(o==true)) (phX (vi x.out)),phG (e&&(o==true)) (phP (zz .i64) m.outputs),phG (e&&(o==true)) (phX (vi m.outputs)),phG (e&&(o==true)) (phX (.bool (decide (x.out<m.outputs)))),phG e (phX (.bool K)),phX (.bool G1),phX (.bool G1)] mixed (by kernel_rfl) (wz ⟨zi,zi,zi,zi,(qy z1f),(qy zi),(qy zi),(qy zi),(qy z1f),(qy zi),(qy z1f),(qy z2t),(qy zi),(qy zi),(qy zi),(qy zi),(qy z1f),(qy zi),(qy zi),(qy zi),(qy zi),(qy z1f),(qy zi),(qy z1f),(qy zi),(qy zi),(qy zi),zi,zi,trivial⟩) ⟨?_,?_,?_,?_,?_,?_,?_,?_,?_,?_,?_,?_,?_,?_,?_,?_,?_,?_,?_,?_,?_,?_,?_,?_,?_,?_,?_,?_,?_,trivial⟩ fun ah u=>?_
 intro l ai a g hd;exact zf rfl rfl rfl (jm (nz zrn (g 3 rfl) (t.mono a)) (fun _ _ h=>z6p.1 h));intro l aj a g hd;exact zf rfl rfl rfl (kz (vs:=[]) q5g rfl (zb3  z) (fun _ _ h=>h));rintro l ak a g ⟨c,f,_⟩;exact zf rfl rfl rfl (zo (zro q9o (c rfl) (f rfl)));rintro l al a g ⟨c,f,_⟩
 exact zf rfl rfl rfl (zo (z8 (c rfl)));rintro l am a g ⟨c,_⟩;exact zw (Gj:=true) (Bj:=decide (x.to=b.to∧x.out=b.out)) rfl rfl rfl (jr (c rfl)) rfl (fun i d=>z3t z7c z7t (g 3 rfl) (t.mono a));rintro l an a g ⟨c,f,_⟩
 exact zw (Gj:=true) (Bj:=decide (x.to=b.to∧x.out=b.out)) rfl rfl rfl (jr (f rfl)) rfl (fun i d=>jm (nz ty3 rfl ((c rfl).1 (zl rfl d))) (fun _ _ h=>ql.1 h));rintro l ao a g ⟨c,f,_⟩
 exact zw (Gj:=true) (Bj:=decide (x.to=b.to∧x.out=b.out)) rfl rfl rfl (jr (f rfl)) rfl (fun i d=>zo (z07 (show l 10=(vi x.to) from(c rfl).1 (zl rfl d)) rfl));rintro l ap a g ⟨c,f,j,_⟩
 exact zw (Gj:=true) (Bj:=decide (x.to=b.to∧x.out=b.out)) rfl rfl rfl (jr (f rfl)) rfl (fun i d=>zo (z8 (show l 11=(.bool (decide (0≤x.to))) from(c rfl).1 (zl rfl d))));rintro l aq a g ⟨c,_⟩;exact zw (Gj:=e) (Bj:=decide (0≤x.to)) rfl rfl rfl (c rfl) rfl (fun i d=>z3t z7c z7t (g 3 rfl) (t.mono a))
 rintro l ar a g ⟨c,f,_⟩;exact zw (Gj:=e) (Bj:=decide (0≤x.to)) rfl rfl rfl (f rfl) rfl (fun i d=>jm (nz ty3 rfl ((c rfl).1 (zl i d))) (fun _ _ h=>ql.1 h));rintro l L a g ⟨c,_⟩;exact zw (Gj:=e) (Bj:=decide (0≤x.to)) rfl rfl rfl (c rfl) rfl (fun i d=>z3t xh wm (g 2 rfl) ((I.mono q).mono a))
 rintro l M a g ⟨c,f,_⟩;exact zw (Gj:=e) (Bj:=decide (0≤x.to)) rfl rfl rfl (f rfl) rfl (fun i d=>nz z4w rfl ((c rfl).1 (zl i d)));rintro l O a g ⟨c,f,_⟩;exact zw (Gj:=e) (Bj:=decide (0≤x.to)) rfl rfl rfl (f rfl) rfl (fun i d=>zo (j4 rfl underlying26 rfl (jo ((c rfl).1 (zl i d)))))
 rintro l P a g ⟨c,f,j,_⟩;exact zw (Gj:=e) (Bj:=decide (0≤x.to)) rfl rfl rfl (j rfl) rfl (fun i d=>zo (jg (show l 14=(vi x.to) from(c rfl).1 (zl i d)) (show l 17=(vi (↑m.rows.length:Int)) from(f rfl).1 (zl i d))));rintro l Q a g ⟨c,f,j,_⟩
 exact zw (Gj:=true) (Bj:=decide (x.to=b.to∧x.out=b.out)) rfl rfl rfl (jr (j rfl)) rfl (fun i d=>zo (uw (show l 12=(.bool (decide (0≤x.to))) from(c rfl).1 (zl rfl d)) (fun s=>(show l 18=(.bool (decide (x.to<(↑m.rows.length:Int)))) from(f rfl).1 (zl (zl rfl d) s))) rfl));rintro l S a g ⟨c,f,j,_⟩
 exact zw (Gj:=true) (Bj:=decide (x.to=b.to∧x.out=b.out)) rfl rfl rfl (jr (j rfl)) rfl (fun i d=>zo (z8 (show l 19=(.bool k) from(c rfl).1 (zl rfl d))));rintro l U a g ⟨c,_⟩
 exact zw (Gj:=e) (Bj:=(decide (0≤x.to))&&(decide (x.to<(↑m.rows.length:Int)))) rfl rfl rfl (c rfl) rfl (fun i d=>z3t ze5 zko (g 3 rfl) (t.mono a));rintro l V a g ⟨c,f,_⟩
 exact zw (Gj:=e) (Bj:=(decide (0≤x.to))&&(decide (x.to<(↑m.rows.length:Int)))) rfl rfl rfl (f rfl) rfl (fun i d=>jm (nz ty3 rfl ((c rfl).1 (zl i d))) (fun _ _ h=>ql.1 h));rintro l W a g ⟨c,f,_⟩
 exact zw (Gj:=e) (Bj:=(decide (0≤x.to))&&(decide (x.to<(↑m.rows.length:Int)))) rfl rfl rfl (f rfl) rfl (fun i d=>zo (z07 (show l 22=(vi x.out) from(c rfl).1 (zl i d)) rfl));rintro l X a g ⟨c,f,j,_⟩
 exact zw (Gj:=true) (Bj:=decide (x.to=b.to∧x.out=b.out)) rfl rfl rfl (jr (j rfl)) rfl (fun i d=>zo (uw (show l 20=(.bool k) from(c rfl).1 (zl rfl d)) (fun s=>(show l 23=(.bool (decide (0≤x.out))) from(f rfl).1 (zl (zl rfl d) s))) rfl));rintro l Y a g ⟨c,f,j,_⟩
 exact zw (Gj:=true) (Bj:=decide (x.to=b.to∧x.out=b.out)) rfl rfl rfl (jr (j rfl)) rfl (fun i d=>zo (z8 (show l 24=(.bool o) from(c rfl).1 (zl rfl d))));rintro l Z a g ⟨c,_⟩;exact zw (Gj:=e) (Bj:=k&&(decide (0≤x.out))) rfl rfl rfl (c rfl) rfl (fun i d=>z3t ze5 zko (g 3 rfl) (t.mono a))
 rintro l aa a g ⟨c,f,_⟩;exact zw (Gj:=e) (Bj:=k&&(decide (0≤x.out))) rfl rfl rfl (f rfl) rfl (fun i d=>jm (nz ty3 rfl ((c rfl).1 (zl i d))) (fun _ _ h=>ql.1 h));rintro l ab a g ⟨c,_⟩
 exact zw (Gj:=e) (Bj:=k&&(decide (0≤x.out))) rfl rfl rfl (c rfl) rfl (fun i d=>z3t zfg zdf (g 2 rfl) ((I.mono q).mono a));rintro l ac a g ⟨c,f,_⟩;exact zw (Gj:=e) (Bj:=k&&(decide (0≤x.out))) rfl rfl rfl (f rfl) rfl (fun i d=>jm (nz ty3 rfl ((c rfl).1 (zl i d))) (fun _ _ h=>ql.1 h))
 rintro l ad a g ⟨c,f,j,_⟩;exact zw (Gj:=e) (Bj:=k&&(decide (0≤x.out))) rfl rfl rfl (j rfl) rfl (fun i d=>zo (jg (show l 27=(vi x.out) from(c rfl).1 (zl i d)) (show l 29=(vi m.outputs) from(f rfl).1 (zl i d))));rintro l ae a g ⟨c,f,j,_⟩
 exact zw (Gj:=true) (Bj:=decide (x.to=b.to∧x.out=b.out)) rfl rfl rfl (jr (j rfl)) rfl (fun i d=>zo (uw (show l 25=(.bool o) from(c rfl).1 (zl rfl d)) (fun s=>(show l 30=(.bool (decide (x.out<m.outputs))) from(f rfl).1 (zl (zl rfl d) s))) rfl));rintro l af a g ⟨c,f,_⟩
 exact zf rfl rfl rfl (zo (vw (c rfl) rfl (fun s=>(show l 31=(.bool K) from(f rfl).1 (zl rfl s)))));rintro l ag a g ⟨c,f,j,d3,d4,d5,d6,d7,d8,d9,au,av,aw,ax,ay,az,aA,aB,aC,aD,aE,aF,aG,aH,aI,aJ,aK,aL,aM,aN,_⟩;exact zf rfl rfl rfl (zo (z1d (c rfl)))
 intro aO B aP C aQ E aR F aS aT aU aV aW aX aY aZ a0 a1 a2 a3 a4 a5 a6 a7 a8 a9 ba bb bc be bf bg bh bi bj bk bl bm bn bo bp bq br bs bt bu bv bw bx bz bA bB bC bD bE G bF H;obtain rfl:=Eq.symm B;obtain rfl:=Eq.symm C;obtain rfl:=Eq.symm E;obtain rfl:=Eq.symm F;obtain rfl:=Eq.symm G;obtain rfl:=Eq.symm H
 refine ze (qp ?_);obtain rfl:=Option.some.inj n;refine qm (D:=[]) (J:=[]) (rs:=[.tmp 4]) (vs:=[(.bool G1)]) ((y.trans q).trans u) rfl rfl ⟨rfl,trivial⟩ ?_;exact⟨rfl,rfl⟩
theorem q9a:Enters prog 106:=enters_of func106 rfl (by kernel_rfl)
theorem zhe{N:Nat}{R:RH}{x:Edge}{p0_:Mach}{a:Value}(c:PRep (kv false false) R a p0_){r:Bool}(b:zab N x p0_=some r):CallP prog 105 #[(z5i x),a] R (fun v R'=>v=(.bool r)):=by
 refine qw (args:=[(z5i x),a]) func105 rfl rfl fun A=>?_;rw [zab] at b;refine zq (zb6 (T:=kEdge) rfl rfl (z6p.2 rfl) fun n o d i=>?_);refine zk (.bool false) (jb (jc rfl z4v rfl (c.mono d) fun p j=>?_));refine jc rfl zrn rfl i fun q k=>?_;obtain rfl:=z6p.1 k
 obtain⟨h,f,b⟩:=zu b;refine jh rfl q9a rfl (zk1 j f) fun l m e g=>?_;obtain rfl:=g;refine zx (fo rfl) (zk (.bool (!h)) (ze (qp ?_)));obtain rfl:=Option.some.inj b;refine qm (D:=[]) (J:=[]) (rs:=[.tmp 3]) (vs:=[(.bool (!h))]) (d.trans e) rfl rfl ⟨rfl,trivial⟩ ?_;exact⟨rfl,rfl⟩
theorem q8d:Enters prog 105:=enters_of func105 rfl (by kernel_rfl)
theorem zcr{N:Nat}{R:RH}{m:Mach}{q:Value}(F:VRep (kv false false) R q m){r:Int}(b:z6n N m=some r):CallP prog 87 #[q] R (fun v R'=>v=(vi r)):=by
 refine qw (args:=[q]) func87 rfl rfl fun A=>?_;rw [z6n] at b;refine zq (vv (T:=(kv false false)) rfl rfl rfl F fun E R3 k h5 l=>?_);refine zk (vi 0) (ze (qc (zq (zjw rfl (wy z1k z2g rfl l) fun v6 h7=>?_))))
 refine jd rfl (lc (u7 ty3 rfl h7)) (jd rfl (l5 rfl rfl) (jd (v:=(.bool (decide (16<m.inputs)))) rfl (z8 rfl) (qo rfl rfl rfl rfl (fun c=>wy zfg zdf rfl l) fun ak G=>?_)));refine qo rfl rfl rfl rfl (fun c=>qf (lc (u7 ty3 rfl (G.1 (zl rfl c))))) fun al H=>?_
 refine qo rfl rfl rfl rfl (fun c=>qf (l5 (H.1 (zl rfl c)) rfl)) fun am I=>?_;refine jd rfl (vw rfl rfl (fun n=>(I.1 (zl rfl n)))) (jd (v:=(.bool ((decide (16<m.inputs))||(decide (16<m.outputs))))) rfl (z8 rfl) (qo rfl rfl rfl rfl (fun c=>wy xh wm rfl l) fun an K=>?_))
 refine qo rfl rfl rfl rfl (fun c=>u7 z4w rfl (K.1 (zl rfl c))) fun ao L=>?_;refine qo rfl rfl rfl rfl (fun c=>qf (j4 rfl underlying26 rfl (jo (L.1 (zl rfl c))))) fun ap M=>?_;refine qo rfl rfl rfl rfl (fun c=>qf (l5 (M.1 (zl rfl c)) rfl)) fun aq O=>?_
 refine jd rfl (vw rfl rfl (fun n=>(O.1 (zl rfl n)))) (ze (zy rfl b (fun b=>?_) (fun b=>?_)));refine zq (zk (vi 3) (ze (qp ?_)));obtain rfl:=Option.some.inj b;refine qm (D:=[]) (J:=[]) (rs:=[.tmp 2]) (vs:=[(vi 3)]) k rfl rfl ⟨rfl,trivial⟩ ?_;exact⟨rfl,rfl⟩
 refine qi (qc (zq (zjw rfl (wy z1k z2g rfl l) fun ar P=>?_)));refine jd rfl (lc (u7 ty3 rfl P)) (jd rfl (jg rfl rfl) (jd (v:=(.bool (decide (m.inputs<1)))) rfl (z8 rfl) (qo rfl rfl rfl rfl (fun c=>wy zfg zdf rfl l) fun au Q=>?_)))
 refine qo rfl rfl rfl rfl (fun c=>qf (lc (u7 ty3 rfl (Q.1 (zl rfl c))))) fun av S=>?_;refine qo rfl rfl rfl rfl (fun c=>qf (jg (S.1 (zl rfl c)) rfl)) fun aw U=>?_
 refine jd rfl (vw rfl rfl (fun n=>(U.1 (zl rfl n)))) (jd (v:=(.bool ((decide (m.inputs<1))||(decide (m.outputs<1))))) rfl (z8 rfl) (qo rfl rfl rfl rfl (fun c=>wy xh wm rfl l) fun ax V=>?_));refine qo rfl rfl rfl rfl (fun c=>u7 z4w rfl (V.1 (zl rfl c))) fun ay W=>?_
 refine qo rfl rfl rfl rfl (fun c=>qf (j4 rfl underlying26 rfl (jo (W.1 (zl rfl c))))) fun az X=>?_;refine qo rfl rfl rfl rfl (fun c=>qf (jg (X.1 (zl rfl c)) rfl)) fun aA Y=>?_;refine jd rfl (vw rfl rfl (fun n=>(Y.1 (zl rfl n)))) (ze (zy rfl b (fun b=>?_) (fun b=>?_)))
 refine zq (zk (vi 1) (ze (qp ?_)));obtain rfl:=Option.some.inj b;refine qm (D:=[]) (J:=[]) (rs:=[.tmp 2]) (vs:=[(vi 1)]) k rfl rfl ⟨rfl,trivial⟩ ?_;exact⟨rfl,rfl⟩;refine qi ?_;obtain⟨s,a,b⟩:=zu b;refine qz (γ:=Unit) (rs [2,3,4,5,33,51]) (fun g=>[]) (fun g=>[]++A) (fun g R=>s=Ex.go g∧True) ?_ ?_
 refine zq (jq rfl xh wm rfl l fun aB Z=>?_);refine jc rfl z4w rfl Z fun aC t=>?_
 refine zx (j4 rfl underlying26 rfl (jo t)) (zh (vi 0) (ze (qj (jf (γ:=Nat×Int) (rs [2,3,4,5,36,51]) (fun g=>[(36,(vi g.2))]) (fun g=>[]++A) (fun g R=>z0x N m g.1 g.2=some s∧True) (fun g=>g.1) (N,0) prm ⟨a,trivial⟩ ?_))));clear a;rintro⟨o,e⟩ ah aD d ⟨a,_⟩;rcases o with _|o
 exact j5 a;replace a:z0x N m (o+1) e=some s:=a;rw [z0x] at a;refine zq (zx (jg rfl rfl) (ze (qc (zy rfl a (fun a=>?_) (fun a=>?_)))));refine qi (qc (qj (zq ?_)));obtain⟨u,a⟩:=zg a
 refine p8 (i:=e.toNat) rfl zeg rfl (jo (t.mono d)) (zt rfl u.1) (qd u) fun aE aa=>?_;refine jc rfl zdn rfl aa fun p w=>?_;refine zk p (jb (jd (v:=p) rfl (z8 rfl) (jd rfl (j4 rfl underlying63 rfl (jo w)) (zjw rfl (wy z1k z2g rfl (l.mono d)) fun aF ab=>?_))))
 refine jd rfl (lc (u7 ty3 rfl ab)) (jd rfl (u6 rfl rfl) (jd (v:=(.bool (decide ((↑(ix m.rows e).length:Int)≠m.inputs)))) rfl (z8 rfl) (qo rfl rfl rfl rfl (fun c=>qf (v:=p) (z8 rfl)) fun aG ac=>?_)))
 refine qo rfl rfl rfl rfl (fun c=>qf (v:=(.func (.func 105) #[] #[E])) (z6d (fs:=[]) (cs:=[E]) rfl rfl)) fun aH ad=>?_;obtain⟨ae,af,a⟩:=zu a
 refine z2w rfl rfl rfl rfl (fun c=>kz (vs:=[p,(.func (.func 105) #[] #[E])]) q9d (z4x (ac.1 (zl rfl c)) (z4x (ad.1 (zl rfl c)) rfl)) ((by have ag:=(sj af (zl rfl c));exact za5 w (zb7 (cs:=[E]) q8d fun R1 hq z0 u0 y k0 hy=>by obtain rfl:=z6p.1 k0;exact CallP.mono (zhe ((l.mono d).mono hq) hy) fun v R2 _ hv=>z2s.2 hv) ag)) (fun _ _ h=>h)) fun x z f j=>?_
 replace j:phG (true&&((decide ((↑(ix m.rows e).length:Int)≠m.inputs))==false)) (phX (.bool (ae.getD default))) x z:=j;refine jd rfl (vw rfl rfl (fun n=>(j.1 (zl rfl n)))) (ze (zy rfl a (fun a=>?_) (fun a=>?_)));refine zq (zk (vi 1) (ze (qp ?_)));replace b:=z02 a b;obtain rfl:=Option.some.inj b
 refine qm (D:=[]) (J:=[]) (rs:=[.tmp 2]) (vs:=[(vi 1)]) ((k.trans d).trans f) rfl rfl ⟨rfl,trivial⟩ ?_;exact⟨rfl,rfl⟩;refine qi (q8 ?_);obtain⟨B,a⟩:=zg a;refine zx (ja rfl rfl B) (zh (vi (e+1)) (ze ?_));exact⟨dkt,f,ji,(o,e+1),Nat.lt_succ_self _,⟨rfl,trivial⟩,prm,a,trivial⟩
 refine jk ?_;exact⟨dkt,d,ji,(),trivial,prm,(Option.some.inj a).symm,trivial⟩;rintro aM ai aN C ⟨rfl,_⟩;replace b:=z1c b;refine zq (zk (vi 0) (ze (qp ?_)));obtain rfl:=Option.some.inj b;refine qm (D:=[]) (J:=[]) (rs:=[.tmp 2]) (vs:=[(vi 0)]) (k.trans C) rfl rfl ⟨rfl,trivial⟩ ?_;exact⟨rfl,rfl⟩
theorem q7y:Enters prog 87:=enters_of func87 rfl (by kernel_rfl)
theorem q91: ∀ w,∃ z,(zeroValue 136).run prog w= .ok z w∧z.cells=([.slice none 0 0]:List Value).toArray:=fun w=>⟨vs0,by kernel_rfl,rfl⟩
theorem ziy{N:Nat}{R:RH}{m:Mach}{a:Value}(d:VRep (kv false false) R a m){r:Mach}(b:z9l N m=some r):CallP prog 107 #[a] R (fun v R'=> ∃ f,v= .func (.func 126) #[] #[f]∧PRep (kv false false) R' f r):=by
 refine qw (args:=[a]) func107 rfl rfl fun A=>?_;rw [z9l] at b;refine zq (vv (T:=(kv false false)) rfl rfl rfl d fun c h e i g=>?_);refine zk .nilFunc (jb (zx (z6d (fs:=[]) (cs:=[c]) rfl rfl) (zk (.func (.func 126) #[] #[c]) (ze (qp ?_)))));obtain rfl:=Option.some.inj b
 refine qm (D:=[]) (J:=[]) (rs:=[.tmp 2]) (vs:=[(.func (.func 126) #[] #[c])]) e rfl rfl ⟨rfl,trivial⟩ ?_;exact⟨rfl,⟨c,rfl,g⟩⟩
theorem q7t:Enters prog 107:=enters_of func107 rfl (by kernel_rfl)
theorem zgx{N:Nat}{R:RH}{p0_:Mach}{e:Value}(r:PRep (kv false false) R e p0_):q49 prog 126 [e] R (fun(x:((Int×Int)×Edge)) vs R=>vs=[(z1l x.1),(z5i x.2)]) (fun σ B s=>z6k N p0_ σ B s):=by
 intro yv σ B I R1 O s0 Y C ab h0 c hy;refine l9 (args:=[yv,e]) func126 rfl rfl fun A=>?_;dsimp only at c;rw [z6k] at c;refine zq (jq rfl xh wm rfl (r.mono C) fun v1 h2=>?_);refine jc rfl z4w rfl h2 fun v3 Z=>?_
 refine zx (j4 rfl underlying26 rfl (jo Z)) (zh (vi 0) (ze (qj (jf (γ:=Nat×σ×Int×(List Frag)) (rs [3,7,10,31]) (fun g=>[(10,(vi g.2.2.1))]) (fun g=>[]++(g.2.2.2++A)) (fun g R=>z0t N σ B p0_ g.1 g.2.1 g.2.2.1=some Y∧I g.2.1 R g.2.2.2∧True) (fun g=>g.1) (N,s0,0,O) prm ⟨c,h0,trivial⟩ ?_))));clear c
 rintro⟨P,x6,d,k⟩ af R8 h ⟨c,l,_⟩;rcases P with _|P;exact j5 c;replace c:z0t N σ B p0_ (P+1) x6 d=some Y:=c;rw [z0t] at c;refine zq (zx (jg rfl rfl) (ze (qc (zy rfl c (fun c=>?_) (fun c=>?_)))));refine qi ?_;obtain⟨t,b,c⟩:=zu c
 refine qz (γ:=σ×(List Frag)) (rs [3,7,12,30]) (fun g=>[]) (fun g=>[]++(g.2++A)) (fun g R=>t=Ex.go g.1∧I g.1 R g.2∧True) ?_ ?_;refine qj (zq (zh (vi d) ?_));obtain⟨E,b⟩:=zg b;refine p8 (i:=d.toNat) rfl zeg rfl (jo (Z.mono h)) (zt rfl E.1) (qd E) fun ag Q=>?_
 refine jc rfl zdn rfl Q fun F G=>?_
 refine zk (vi d) (zk F (jb (zh F (zx (j4 rfl underlying63 rfl (jo G)) (zh (vi 0) (ze (qj (jf (γ:=Nat×σ×Int×(List Frag)) (rs [5,7,17,30]) (fun g=>[(17,(vi g.2.2.1))]) (fun g=>[]++(g.2.2.2++A)) (fun g R=>z09 N σ B p0_ d g.1 g.2.1 g.2.2.1=some t∧I g.2.1 R g.2.2.2∧True) (fun g=>g.1) (N,x6,0,k) prm ⟨b,l,trivial⟩ ?_))))))))
 clear b;rintro⟨j,u,a,m⟩ ah ai f ⟨b,n,_⟩;rcases j with _|j;exact j5 b;replace b:z09 N σ B p0_ d (j+1) u a=some t:=b;rw [z09] at b;refine zq (zx (jg rfl rfl) (ze (qc (zy rfl b (fun b=>?_) (fun b=>?_)))))
 refine qi (qc (qj (zq (zh (vi a) ?_))));obtain⟨H,b⟩:=zg b;refine p8 (i:=a.toNat) rfl zf7 rfl (jo (G.mono f)) (zt rfl H.1) (qd H) fun aj S=>?_;refine jc rfl zrn rfl S fun ak T=>?_;obtain rfl:=z6p.1 T;refine r9 rfl zq2 fun y=>?_
 refine zk (vi a) (p9 (i:=0) (vs:=[(vi ((ix (ix p0_.rows d) a).to)),(vi ((ix (ix p0_.rows d) a).out))]) zh5 rfl rfl rfl rfl rfl rfl (jl rfl (jl rfl mq)) ?_)
 refine jb (zh yv (zh (vi d) (zh (vi a) (zx (bn (ps:=[(0,(vi d)),(1,(vi a))]) (v:=(.agg #[(vi d),(vi a)])) rfl (fun w=>by kernel_rfl)) (zx (jv (i:=0) q0f zh5 rfl rfl rfl rfl) ?_)))));obtain⟨z,U,b⟩:=zu b
 refine zy0 (vs:=[(.agg #[(vi d),(vi a)]),(.agg #[(vi ((ix (ix p0_.rows d) a).to)),(vi ((ix (ix p0_.rows d) a).out))])]) (J:=[box y [(vi ((ix (ix p0_.rows d) a).to)),(vi ((ix (ix p0_.rows d) a).out))] 66]) (Oc:=m) (A:=A) rfl rfl rfl rfl (hy (((d,a):(Int×Int)),(⟨(ix (ix p0_.rows d) a).to,(ix (ix p0_.rows d) a).out⟩:Edge)) u z.1 z.2 _ _ [(.agg #[(vi d),(vi a)]),(.agg #[(vi ((ix (ix p0_.rows d) a).to)),(vi ((ix (ix p0_.rows d) a).out))])] (h.trans f) rfl n U) fun al o p q=>?_
 refine zx (fo rfl) (ze (zy rfl b (fun b=>?_) (fun b=>?_)));refine qp ?_;replace c:=z02 b c;obtain rfl:=Option.some.inj c;refine bz (D:=[]) (J:=[box y [(vi ((ix (ix p0_.rows d) a).to)),(vi ((ix (ix p0_.rows d) a).out))] 66]) (O':=o) (rs:=[]) (vs:=[]) ((h.trans f).trans p) (List.Perm.refl _) rfl trivial ?_
 exact q;refine qi (q8 ?_);obtain⟨V,b⟩:=zg b;refine zx (ja rfl rfl V) (zh (vi (a+1)) (ze ?_));exact⟨dkt,p,ji,(j,z.2,a+1,o),Nat.lt_succ_self _,⟨rfl,trivial⟩,⟨[box y [(vi ((ix (ix p0_.rows d) a).to)),(vi ((ix (ix p0_.rows d) a).out))] 66],(List.Perm.refl _)⟩,b,q,trivial⟩
 refine jk ?_;exact⟨dkt,f,ji,(u,m),trivial,prm,(Option.some.inj b).symm,n,trivial⟩;rintro⟨W,K⟩ am an L ⟨rfl,M,_⟩;replace c:=z1c c;refine q8 ?_;obtain⟨X,c⟩:=zg c;refine zx (ja rfl rfl X) (zh (vi (d+1)) (ze ?_))
 exact⟨dkt,L,ji,(P,W,d+1,K),Nat.lt_succ_self _,⟨rfl,trivial⟩,prm,c,M,trivial⟩;refine jk ?_;show zdd _ _ _ _ _ .ret _ [] _ _;obtain rfl:=Option.some.inj c;refine bz (D:=[]) (J:=[]) (O':=k) (rs:=[]) (vs:=[]) h (List.Perm.refl _) rfl trivial ?_;exact l
theorem q7m:Enters prog 126:=enters_of func126 rfl (by kernel_rfl)
theorem q5w: ∀ w,∃ z,(zeroValue 94).run prog w= .ok z w∧z.cells=([.int .i64 0,.int .i64 0]:List Value).toArray:=fun w=>⟨(.agg #[(vi 0),(vi 0)]),by kernel_rfl,rfl⟩
theorem zp8: ∀ w,(sizeOf 94).run prog w= .ok 2 w:=fun w=>by kernel_rfl
theorem q4q: ∀ w,(isAgg 136).run prog w= .ok false w:=fun w=>by kernel_rfl
theorem zwr: ∀ w,(isAgg 94).run prog w= .ok true w:=fun w=>by kernel_rfl
theorem q8m:ZeroOk prog 94 kA2tInti64 (((0:Int),(0:Int)):(Int×Int)) 16:=by
 obtain⟨i,zv,hi,a,c,d,f⟩:=z4z (P:=prog) (e:=94) (zv:=(.agg #[(vi 0),(vi 0)])) (k:=2) (b:=16) (by kernel_rfl);exact⟨i,zv,hi,a,c,d,fun R=>by subst f;exact⟨_,_,rfl,rfl,rfl⟩⟩
theorem q7j: ∀ w,(sizeOf 136).run prog w= .ok 1 w:=fun w=>by kernel_rfl
theorem q5q:TyOk prog 94 kA2tInti64:=by
 obtain⟨i,hi,a⟩: ∃ i,prog.info? 94=some i∧i.size=2:=uy (by kernel_rfl);exact z5p underlying94 hi rfl a
theorem q8z:SlOk prog 136 94 kA2tInti64:=⟨underlying136,q5q⟩
theorem zfi{N:Nat}{R:RH}{s:(List (Int×Int))}{a:Value}(b:VRep (tSl false kA2tInti64) R a s){r:(List (Int×Int))}(c:z7e N s=some r):CallP prog 108 #[a] R (fun v R'=>VRep (tSl true kA2tInti64) R' v r):=by
 refine qw (args:=[a]) func108 rfl rfl fun A=>?_;rw [z7e] at c;refine zq (zk vs0 (jb (zh a (zh a (zx (j4 rfl underlying136 rfl (jo b)) (zh a (zx (j4 rfl underlying136 rfl (jo b)) ?_)))))));obtain⟨d,c⟩:=zg c
 refine znl (v:=a) (lo:=(0:Int).toNat) (hi:=(↑s.length:Int).toNat) (mx:=(↑s.length:Int).toNat) rfl q8z rfl (jo b) (.inl ⟨rfl,rfl⟩) (.inr ⟨_,congrArg some (zt rfl (znu d))⟩) (.inr ⟨_,congrArg some (zt rfl (znu d))⟩) (zfp d) (zb4 d) (Nat.le_refl _) (Nat.le_trans (zb4 d) (q3e (jo b))) (X':=(cut s 0 (↑s.length:Int))) rfl fun f g e=>?_
 have h:VRep (tSl true kA2tInti64) R f (cut s 0 (↑s.length:Int)):=z4e g (e.trans (zvw d).symm);refine zk f (ze (qp ?_));obtain rfl:=Option.some.inj c;refine qm (D:=[]) (J:=[]) (rs:=[.tmp 2]) (vs:=[f]) (RH.le.refl _) rfl rfl ⟨rfl,trivial⟩ ?_;exact⟨rfl,h⟩
theorem q8l:Enters prog 108:=enters_of func108 rfl (by kernel_rfl)
theorem zfl{N:Nat}{R:RH}{m:Mach}{t:Value}(u:VRep (kv false false) R t m){r:(List (Int×Int))}(d:z5m N m=some r):CallP prog 88 #[t] R (fun v R'=>VRep (tSl true kA2tInti64) R' v r):=by
 refine qw (args:=[t]) func88 rfl rfl fun A=>?_;rw [z5m] at d;refine zq (vv (T:=(kv false false)) rfl rfl rfl u fun v1 R3 w h5 h2=>?_);refine zk vs0 (jb (r9 rfl q91 fun E=>?_));refine ze (qc (zq (zx (ui z4v rfl rfl h5 (u.mono w)) ?_)));obtain⟨y8,c9,d⟩:=zu d
 refine jh rfl q7t rfl (ziy (u.mono w) c9) fun aB aC F U=>?_;obtain⟨aD,rfl,V⟩:=U;refine ze (qj (z5s ?_));obtain⟨W,Z,d⟩:=zu d
 refine zyc (Oc:=[emp,box E [vs0] 136]) (Or:=A) _ (fun(s:List (Int×Int)) R O=> ∃ (e:Value) (f:Frag),(∃ J,O.Perm (J++[box E [e] 136,f]))∧ORep kA2tInti64 R f e s∧True) (fun(s:List (Int×Int)) (c:Code) R O=>False) _ _ rfl q7m (zgx (N:=N) V) (List.Perm.refl _) (by decide) (by rintro _ _ _ rfl;rfl) (by rintro s R2 R3 O2 n ⟨e,f,G,o,_⟩;exact⟨e,f,G,o.mono n,trivial⟩) (fun _ _ _ _ _ _ h=>h) (fun _ _ _ _ _ h=>h.elim) ⟨vs0,emp,⟨[],(pk 1 rfl (pk 0 rfl (List.Perm.refl _)))⟩,(z2c (T:=kA2tInti64)),trivial⟩ Z ?_ ?_ ?_
 rintro a aa aE aF ar aG au av aw H ⟨e,f,⟨_,G⟩,o,_⟩ p aH;have b:=p;clear p;(try dsimp only at b);refine zpl (q1a G) ?_;obtain rfl:=H;refine zq (r9 rfl q5w fun j=>?_);refine p9 (i:=0) (vs:=[(vi a.1.1),(vi a.1.2)]) zp8 rfl rfl rfl rfl rfl rfl (jl rfl (jl rfl mq)) ?_
 refine ze (q8 (r9 rfl zq2 fun k=>?_));refine p9 (i:=0) (vs:=[(vi a.2.to),(vi a.2.out)]) zh5 rfl rfl rfl rfl rfl rfl (jl rfl (jl rfl mq)) ?_;refine ze ?_
 refine⟨rfl,rfl,(RH.le.refl _),[box k [(vi a.2.to),(vi a.2.out)] 66,box j [(vi a.1.1),(vi a.1.2)] 94,box E [e] 136,f],List.Perm.refl _,fun aI=>?_⟩;refine qj (qc ?_);obtain⟨x,ab,b⟩:=zu b
 refine xq 3 [] [phX (.agg #[(vi a.2.to),(vi a.2.out)]),phX (z5i x),phX (.bool (decide (a.2.to=x.to∧a.2.out=x.out)))] mixed (by kernel_rfl) (wz ⟨zi,zi,zi,trivial⟩) ⟨?_,?_,?_,trivial⟩ fun aJ g=>?_;intro l aK n ha hd;exact zf rfl rfl rfl (zo (jv (i:=0) q0f zh5 (ha 5 rfl) rfl rfl rfl))
 intro l aL n ha hd;exact zf rfl rfl rfl (kz (vs:=[]) q5g rfl (zb3  ab) (fun _ _ h=>h));rintro l aM n ha ⟨d0,d1,_⟩;exact zf rfl rfl rfl (zo (zro q9o (d0 rfl) (d1 rfl)));intro aP ad aQ ae aR af;obtain rfl:=Eq.symm ad;obtain rfl:=Eq.symm ae;obtain rfl:=Eq.symm af;refine ze (zy rfl b (fun b=>?_) (fun b=>?_))
 refine q8 (zx (ku (i:=2) q4q rfl rfl rfl) (zx (jv (i:=1) zwr zp8 rfl rfl rfl rfl) (dh (T:=kA2tInti64) (X:=([((a.1.1,a.1.2):(Int×Int))]:List (Int×Int))) (ps:=[(0,(.agg #[(vi a.1.1),(vi a.1.2)]))]) (css:=[[(vi a.1.1),(vi a.1.2)]]) rfl underlying136 q8m rfl rfl (kw ⟨⟨_,_,rfl,rfl,rfl⟩,trivial⟩) rfl rfl (by decide) fun ag aS y ah=>?_)))
 refine wh (i:=0) rfl ah fun ai q aj=>?_;have ak:VRep (tSl true kA2tInti64) ai ag ([((a.1.1,a.1.2):(Int×Int))]:List (Int×Int)):=(z4e aj y);obtain⟨I,b⟩:=zg b
 refine di (i:=3) (X:=aa) (Y:=([((a.1.1,a.1.2):(Int×Int))]:List (Int×Int))) rfl underlying136 q8m rfl rfl rfl (o.mono (g.trans q)) (jo (Sub.v (B:=(tSl false kA2tInti64)) (um Sub.refl (fun _=>rfl)) ak)) I.1 I.2 fun z K C=>?_
 refine p9 (i:=2) (vs:=[z]) q7j rfl rfl (z6b C) rfl rfl rfl (jl (z7r C) mq) ?_;refine ze ?_;obtain⟨rfl,rfl⟩:=Prod.mk.inj (Option.some.inj b)
 exact⟨rfl,(g.trans q),[box k [(vi a.2.to),(vi a.2.out)] 66,box j [(vi a.1.1),(vi a.1.2)] 94,box E [z] 136,K],List.Perm.refl _,rfl,⟨z,K,⟨[box k [(vi a.2.to),(vi a.2.out)] 66,box j [(vi a.1.1),(vi a.1.2)] 94],(List.Perm.refl _)⟩,C,trivial⟩⟩;refine qi ?_
 obtain⟨rfl,rfl⟩:=Prod.mk.inj (Option.some.inj b)
 exact⟨rfl,g,[box k [(vi a.2.to),(vi a.2.out)] 66,box j [(vi a.1.1),(vi a.1.2)] 94,box E [e] 136,f],List.Perm.refl _,rfl,⟨e,f,⟨[box k [(vi a.2.to),(vi a.2.out)] 66,box j [(vi a.1.1),(vi a.1.2)] 94],(List.Perm.refl _)⟩,(o.mono g),trivial⟩⟩
 rintro aT aU ax L ⟨M,aV,⟨_,G⟩,al,_⟩;refine⟨_,_,G,?_⟩;refine zq (zx (ku (i:=0) q4q rfl rfl rfl) (wh (i:=1) rfl al fun am P an=>?_));have ao:VRep (tSl false kA2tInti64) am M W:=(z6x an);obtain⟨aW,ap,d⟩:=zu d;refine jh rfl q8l rfl (zfi ao ap) fun Q aX S aq=>?_
 refine zk Q (ze (qp ?_));obtain rfl:=Option.some.inj d;refine qm (D:=[]) (J:=[box E [M] 136]) (rs:=[.tmp 2]) (vs:=[Q]) ((((w.trans F).trans L).trans P).trans S) rfl rfl ⟨rfl,trivial⟩ ?_;exact⟨rfl,aq⟩;exact fun _ _ _ _ _ h=>h.elim
theorem qak:Enters prog 88:=enters_of func88 rfl (by kernel_rfl)
theorem zgk{N:Nat}{R:RH}{m:Mach}{e:Value}(d:VRep (kv false false) R e m){r:Bool×Int}(a:z6a N m=some r):CallP prog 70 #[e] R (fun v R'=>v= .tuple #[(.bool r.1),(vi r.2)]):=by
 refine qw (args:=[e]) func70 rfl rfl fun A=>?_;rw [z6a] at a;refine zq (vv (T:=(kv false false)) rfl rfl rfl d fun s t c k u=>?_);refine zk (.bool false) (zk (vi 0) (ze (qc (zq (zx (ui z4v rfl rfl k (d.mono c)) ?_)))));obtain⟨f,l,a⟩:=zu a
 refine jh rfl q7y rfl (zcr (d.mono c) l) fun w n b o=>?_;obtain rfl:=o;refine zk (vi f) (jb (zh (vi f) (zx (u6 rfl rfl) (ze (zy rfl a (fun a=>?_) (fun a=>?_))))));refine zq (zh (vi f) (zk (.bool false) (zk (vi f) (ze (qp ?_)))));obtain rfl:=Option.some.inj a
 refine qm (D:=[]) (J:=[]) (rs:=[.tmp 2,.tmp 3]) (vs:=[(.bool false),(vi f)]) (c.trans b) rfl rfl ⟨rfl,rfl,trivial⟩ ?_;exact⟨rfl,rfl⟩;refine qi (zq (zx (ui z4v rfl rfl (k.mono b) (d.mono (c.trans b))) ?_));obtain⟨g,i,a⟩:=zu a
 refine jh rfl qak rfl (zfl (d.mono (c.trans b)) i) fun p q h j=>?_;refine zx (j4 rfl underlying136 rfl (jo j)) (zx (xk rfl rfl) (zk (.bool (decide ((↑g.length:Int)=0))) (zk (vi 0) (ze (qp ?_)))));obtain rfl:=Option.some.inj a
 refine qm (D:=[]) (J:=[]) (rs:=[.tmp 2,.tmp 3]) (vs:=[(.bool (decide ((↑g.length:Int)=0))),(vi 0)]) ((c.trans b).trans h) rfl rfl ⟨rfl,rfl,trivial⟩ ?_;exact⟨rfl,rfl⟩
theorem qbh:Enters prog 70:=enters_of func70 rfl (by kernel_rfl)
theorem z7i{N:Nat}{R:RH}{m:Mach}{e:Value}(f:VRep (kv false false) R e m){r:Int}(a:z3i N m=some r):CallP prog 31 #[e] R (fun v R'=>v=(vi r)):=by
 refine qw (args:=[e]) func31 rfl rfl fun A=>?_;rw [z3i] at a;refine zq (vv (T:=(kv false false)) rfl rfl rfl f fun s t c j u=>?_);refine zk (vi 0) (jb (zx (ui z4v rfl rfl j (f.mono c)) ?_));obtain⟨b,k,a⟩:=zu a
 refine jh rfl qbh rfl (zgk (f.mono c) k) fun w l d n=>?_;obtain rfl:=n
 refine zh (.tuple #[(.bool b.1),(vi b.2)]) (zx (qx rfl rfl) (zx (qx rfl rfl) (zk (.bool b.1) (zk (vi b.2) (ze (qc (zq (jd (v:=(vi b.2)) rfl (z8 rfl) (jd rfl (xk rfl rfl) (jd (v:=(.bool (decide (b.2=0)))) rfl (z8 rfl) (qo rfl rfl rfl rfl (fun i=>qf (v:=(.bool b.1)) (z8 rfl)) fun o g=>?_)))))))))))
 refine qo rfl rfl rfl rfl (fun i=>qf (fo (g.1 (zl rfl i)))) fun p h=>?_;refine jd rfl (uw rfl (fun q=>(h.1 (zl rfl q))) rfl) (ze (zy rfl a (fun a=>?_) (fun a=>?_)));refine zq (zk (vi 9) (ze (qp ?_)));obtain rfl:=Option.some.inj a
 refine qm (D:=[]) (J:=[]) (rs:=[.tmp 2]) (vs:=[(vi 9)]) (c.trans d) rfl rfl ⟨rfl,trivial⟩ ?_;exact⟨rfl,rfl⟩;refine qi (zq (zh (vi b.2) (zk (vi b.2) (ze (qp ?_)))));obtain rfl:=Option.some.inj a;refine qm (D:=[]) (J:=[]) (rs:=[.tmp 2]) (vs:=[(vi b.2)]) (c.trans d) rfl rfl ⟨rfl,trivial⟩ ?_
 exact⟨rfl,rfl⟩
theorem zx9:Enters prog 31:=enters_of func31 rfl (by kernel_rfl)
theorem zf6{N:Nat}{R:RH}{m:Mach}{b:Value}(c:VRep (kv false false) R b m){r:Int}(a:za2 N m=some r):CallP prog 35 #[b] R (fun v R'=>v=(.int .u16 r)):=by
 refine qw (args:=[b]) func35 rfl rfl fun A=>?_;rw [za2] at a;refine zq (vv (T:=(kv false false)) rfl rfl rfl c fun i j d k f=>?_);refine zk (.int .u16 0) (jb (jq rfl xh wm rfl f fun l g=>?_));refine jc rfl z4w rfl g fun n h=>?_;refine zx (j4 rfl underlying26 rfl (jo h)) ?_
 obtain⟨e,a⟩:=zg a;refine zx (zdq rfl rfl e) (zx (zq8 rfl rfl) (zk (.int .u16 (IntKind.u16.wrap ((z0k .u16 (1:Int) (↑m.rows.length:Int))-1))) (ze (qp ?_))));obtain rfl:=Option.some.inj a
 refine qm (D:=[]) (J:=[]) (rs:=[.tmp 2]) (vs:=[(.int .u16 (IntKind.u16.wrap ((z0k .u16 (1:Int) (↑m.rows.length:Int))-1)))]) d rfl rfl ⟨rfl,trivial⟩ ?_;exact⟨rfl,rfl⟩
theorem zz5{a:Bool}:ZeroOk prog 111 (yf a) (⟨(0:Int),([]:List Int)⟩:Sb) 32:=by
 obtain⟨i,zv,hi,c,d,f,g⟩:=z4z (P:=prog) (e:=111) (zv:=(.agg #[(.int .u16 0),vs0])) (k:=2) (b:=32) (by kernel_rfl);exact⟨i,zv,hi,c,d,f,fun R=>by subst g;exact⟨_,_,rfl,rfl,(kg rfl z3j)⟩⟩
theorem ko9:KOk prog 9 z3k:=q2l underlying9
theorem q47{a:Bool}:TyOk prog 111 (yf a):=by
 obtain⟨i,hi,b⟩: ∃ i,prog.info? 111=some i∧i.size=2:=uy (by kernel_rfl);exact z5p underlying111 hi rfl b
theorem q9k{a:Bool}:SlOk prog 112 111 (yf a):=⟨underlying112,q47⟩
theorem q8n: ∀ w,∃ z,(zeroValue 111).run prog w= .ok z w∧z.cells=([.int .u16 0,.slice none 0 0]:List Value).toArray:=fun w=>⟨(.agg #[(.int .u16 0),vs0]),by kernel_rfl,rfl⟩
theorem q7k: ∀ w,(sizeOf 111).run prog w= .ok 2 w:=fun w=>by kernel_rfl
theorem zun:FieldOk prog 111 0 0:=by
 obtain⟨i,hi,a⟩: ∃ i,prog.info? 68=some i∧i.size=1:=uy (by kernel_rfl);exact dn underlying111 rfl rfl hi (by rw [a];rfl)
theorem q39: ∀ w,(isAgg 68).run prog w= .ok false w:=fun w=>by kernel_rfl
theorem zvp:FieldOk prog 111 1 1:=by
 obtain⟨i,hi,a⟩: ∃ i,prog.info? 30=some i∧i.size=1:=uy (by kernel_rfl);exact dn underlying111 rfl rfl hi (by rw [a];rfl)
theorem zy1: ∀ w,(isAgg 30).run prog w= .ok false w:=fun w=>by kernel_rfl
theorem z2z{N:Nat}{R:RH}{s:(List Int)}{a:Value}(b:VRep (tSl false (zz .i64)) R a s){r:(List Int)}(c:z0q N s=some r):CallP prog 51 #[a] R (fun v R'=>VRep (tSl true (zz .i64)) R' v r):=by
 refine qw (args:=[a]) func51 rfl rfl fun A=>?_;rw [z0q] at c;refine zq (zk vs0 (jb (zh a (zh a (zx (j4 rfl underlying30 rfl (jo b)) (zh a (zx (j4 rfl underlying30 rfl (jo b)) ?_)))))));obtain⟨d,c⟩:=zg c
 refine znl (v:=a) (lo:=(0:Int).toNat) (hi:=(↑s.length:Int).toNat) (mx:=(↑s.length:Int).toNat) rfl z3y rfl (jo b) (.inl ⟨rfl,rfl⟩) (.inr ⟨_,congrArg some (zt rfl (znu d))⟩) (.inr ⟨_,congrArg some (zt rfl (znu d))⟩) (zfp d) (zb4 d) (Nat.le_refl _) (Nat.le_trans (zb4 d) (q3e (jo b))) (X':=(cut s 0 (↑s.length:Int))) rfl fun f g e=>?_
 have h:VRep (tSl true (zz .i64)) R f (cut s 0 (↑s.length:Int)):=z4e g (e.trans (zvw d).symm);refine zk f (ze (qp ?_));obtain rfl:=Option.some.inj c;refine qm (D:=[]) (J:=[]) (rs:=[.tmp 2]) (vs:=[f]) (RH.le.refl _) rfl rfl ⟨rfl,trivial⟩ ?_;exact⟨rfl,h⟩
theorem zth:Enters prog 51:=enters_of func51 rfl (by kernel_rfl)
theorem mz4: ∀ w,(zeroValue 4).run prog w= .ok (Value.bool false) w:=fun w=>by kernel_rfl
theorem zep{N:Nat}{R:RH}{inputs:Int}{from_:Int}{key:Int→Option (List UInt8)}{o:Value}(Q:FOk1 prog R o (zz .u16) q3q key){is:Int→Option Bool}{K:Value}(aF:FOk1 prog R K (zz .u16) z16 is){next:Int→Int→Option Int}{n:Value}(ac:FOk2 prog R n (zz .u16) (zz .i64) (zz .u16) next){r:(List Int)×Int}(p:z4r N inputs from_ key is next=some r):CallP prog 34 #[(vi inputs),(.int .u16 from_),o,K,n] R (fun v R'=> ∃ u0,v= .tuple #[u0,(vi r.2)]∧VRep (tSl true (zz .i64)) R' u0 r.1):=by
 refine qw (args:=[(vi inputs),(.int .u16 from_),o,K,n]) func34 rfl rfl fun A=>?_;rw [z4r] at p
 refine zq (zk vs0 (zk (vi 0) (jb (zh (.int .u16 from_) (zx (bn (ps:=[(0,(.int .u16 from_))]) (v:=(.agg #[(.int .u16 from_),vs0])) rfl (fun w=>by kernel_rfl)) (dh (T:=(yf false)) (X:=([(⟨from_,[]⟩:Sb)]:List Sb)) (ps:=[(0,(.agg #[(.int .u16 from_),vs0]))]) (css:=[[(.int .u16 from_),vs0]]) rfl underlying112 zz5 rfl rfl (kw ⟨⟨_,_,rfl,rfl,(kg rfl z3j)⟩,trivial⟩) rfl rfl (by decide) fun v1 f2 bO h4=>?_))))))
 refine zk v1 (jb (zh9 (ke:=z3k) (ve:=Value.bool) rfl fun v6 f7 h8=>?_));refine zh o (zh (.int .u16 from_) ?_);obtain⟨aG,bq,p⟩:=zu p;refine z5e rfl rfl rfl (Q _ (RH.le.refl _) from_ _ _ (ql.2 rfl) bq) fun cc cd q br=>?_;obtain rfl:=z9o.1 br
 refine zdy (i:=0) (k:=aG) (u:=true) underlying113 ko9 rfl (h8.mono q) rfl rfl rfl fun bs bt=>?_;refine zh v6 (zk v6 (ze ?_));obtain⟨ar,c,p⟩:=zu p;refine qz (γ:=Unit) (rs [10,13,14,16,17,21,29,83]) (fun g=>[]) (fun g=>[]++A) (fun g R=>ar=Ex.go g∧True) ?_ ?_
 refine zq (zk (vi 0) (ze (qj (jf (γ:=Nat×(List Sb)×Int×(List ((List UInt8)×Bool))×Value×Frag×Frag) (rs [10,13,14,16,17,21,29,83]) (fun g=>[(12,g.2.2.2.2.1),(14,(vi g.2.2.1))]) (fun g=>[g.2.2.2.2.2.2,g.2.2.2.2.2.1]++A) (fun g R=>aj N inputs key is next g.1 g.2.1 g.2.2.1 g.2.2.2.1=some ar∧ORep (yf false) R g.2.2.2.2.2.1 g.2.2.2.2.1 g.2.1∧MRep z3k Value.bool R g.2.2.2.2.2.2 v6 g.2.2.2.1∧True) (fun g=>g.1) (N,([(⟨from_,[]⟩:Sb)]:List Sb),0,(z8a ([]:List ((List UInt8)×Bool)) aG true),v1,f2,bs) prm ⟨c,(h4.mono q),bt,trivial⟩ ?_))))
 clear c;rintro⟨ad,x23,S,aH,aI,F,aJ⟩ bP ce C ⟨c,ae,bu,_⟩;rcases ad with _|ad;exact j5 c;replace c:aj N inputs key is next (ad+1) x23 S aH=some ar:=c;rw [aj] at c
 refine qc (zq (jd (v:=aI) rfl (z8 rfl) (jd rfl (z3l rfl underlying112 rfl ae) (jd rfl (l5 rfl rfl) (jd (v:=(.bool (decide (0<(↑x23.length:Int))))) rfl (z8 rfl) (qo rfl rfl rfl rfl (fun hB=>qf (v:=(vi S)) (z8 rfl)) fun cf bv=>?_))))))
 refine qo rfl rfl rfl rfl (fun hB=>qf (z5q (bv.1 (zl rfl hB)) rfl)) fun cg bw=>?_;refine jd rfl (uw rfl (fun hb=>(bw.1 (zl rfl hb))) rfl) (ze (zy rfl c (fun c=>?_) (fun c=>?_)));refine qi (qc (qj (zq (zk vs0 (ze ?_)))));obtain⟨au,d,c⟩:=zu c
 refine qz (γ:=(List Sb×List ((List UInt8)×Bool))×Value×Frag×Frag) (rs [10,12,15,16,17,21,38,82]) (fun g=>[(15,g.2.1)]) (fun g=>[g.2.2.2,g.2.2.1]++A) (fun g R=>au=Ex.go g.1∧ORep (yf false) R g.2.2.1 g.2.1 g.1.1∧MRep z3k Value.bool R g.2.2.2 v6 g.1.2∧True) ?_ ?_
 refine zq (zh aI (zx (z3l rfl underlying112 rfl ae) (zh (vi 0) (ze (qj (z5s ?_))))))
 refine jf (γ:=Nat×(List Sb)×Int×(List ((List UInt8)×Bool))×Value×Frag×Frag) (rs [10,12,15,16,17,21,40,82]) (fun g=>[(15,g.2.2.2.2.1),(40,(vi g.2.2.1))]) (fun g=>[g.2.2.2.2.2.2,F,g.2.2.2.2.2.1]++A) (fun g R=>ak N inputs key is next x23 g.1 g.2.1 g.2.2.1 g.2.2.2.1=some au∧ORep (yf false) R g.2.2.2.2.2.1 g.2.2.2.2.1 g.2.1∧MRep z3k Value.bool R g.2.2.2.2.2.2 v6 g.2.2.2.1∧True) (fun g=>g.1) (N,[],0,aH,vs0,emp,aJ) ⟨[],(pk 1 rfl (pk 1 rfl (pk 0 rfl (List.Perm.refl _))))⟩ ⟨d,(z2c (T:=(yf false))),bu,trivial⟩ ?_
 clear d;rintro⟨af,av,x62,aw,aK,ax,ay⟩ bR ci s ⟨d,aL,aM,_⟩;rcases af with _|af;exact j5 d;replace d:ak N inputs key is next x23 (af+1) av x62 aw=some au:=d;rw [ak] at d;refine zq (zx (jg rfl rfl) (ze (qc (zy rfl d (fun d=>?_) (fun d=>?_)))));refine qi ?_
 obtain⟨az,a,d⟩:=zu d;refine qz (γ:=(List ((List UInt8)×Bool)×List Sb)×Frag×Value×Frag) (rs [10,12,15,16,17,21,42,81]) (fun g=>[(15,g.2.2.1)]) (fun g=>[g.2.1,g.2.2.2,F]++A) (fun g R=>az=Ex.go g.1∧MRep z3k Value.bool R g.2.1 v6 g.1.1∧ORep (yf false) R g.2.2.2 g.2.2.1 g.1.2∧True) ?_ ?_
 refine qj (zq ?_);obtain⟨aA,a⟩:=zg a;refine z1o (i:=x62.toNat) rfl q9k rfl (ae.mono s) (zt rfl aA.1) (qd aA) fun cj bx=>?_;refine z7g (i:=x62.toNat) (j:=1) rfl q47 (ae.mono s) rfl rfl bx (qd aA) fun ck bz=>?_;refine r9 rfl q8n fun ag=>?_;obtain⟨U,rfl,aB⟩:=zc3 bz
 refine p9 (i:=0) (vs:=[(.int .u16 ((ix x23 x62).fJ)),U]) q7k rfl rfl rfl rfl rfl rfl (jl rfl (jl (zbn aB) mq)) ?_;refine ze (qc (zq (zh K (zx (ko zun rfl) (zx (ku (i:=0) q39 rfl rfl rfl) ?_)))));obtain⟨cl,bA,a⟩:=zu a
 refine z5e rfl rfl rfl ((aF.mono ((q.trans C).trans s)) _ (RH.le.refl _) ((ix x23 x62).fJ) _ _ (ql.2 rfl) bA) fun cm cn m bB=>?_;obtain rfl:=z2s.1 bB;refine ze (zy rfl a (fun a=>?_) (fun a=>?_));refine zq (zx (ko zvp rfl) (zx (ku (i:=0) zy1 rfl rfl rfl) ?_));obtain⟨co,bC,a⟩:=zu a
 refine jh rfl zth rfl (z2z (aB.mono m) bC) fun V bS aC aN=>?_;refine zk V (zk (vi 0) (ze (qp ?_)));replace d:=z02 a d;replace c:=z02 d c;replace p:=z02 c p;obtain rfl:=Option.some.inj p
 refine qm (D:=[]) (J:=[box ag [(.int .u16 ((ix x23 x62).fJ)),U] 111,ay,F,ax]) (rs:=[.tmp 10,.tmp 11]) (vs:=[V,(vi 0)]) ((((q.trans C).trans s).trans m).trans aC) rfl rfl ⟨rfl,rfl,trivial⟩ ?_;exact⟨rfl,⟨V,rfl,aN⟩⟩
 refine qi (zq (zh (vi inputs) (zh (vi 0) (ze (qj (jf (γ:=Nat×Int×(List ((List UInt8)×Bool))×(List Sb)×Frag×Value×Frag) (rs [15,16,18,21,52,81]) (fun g=>[(15,g.2.2.2.2.2.1),(52,(vi g.2.1))]) (fun g=>[g.2.2.2.2.1,g.2.2.2.2.2.2,box ag [(.int .u16 ((ix x23 x62).fJ)),U] 111,F]++A) (fun g R=>oz N inputs key next x23 x62 g.1 g.2.1 g.2.2.1 g.2.2.2.1=some az∧MRep z3k Value.bool R g.2.2.2.2.1 v6 g.2.2.1∧ORep (yf false) R g.2.2.2.2.2.2 g.2.2.2.2.2.1 g.2.2.2.1∧True) (fun g=>g.1) (N,0,aw,av,ay,aK,ax) ⟨[],(pk 1 rfl (pk 2 rfl (pk 0 rfl (pk 0 rfl (List.Perm.refl _)))))⟩ ⟨a,(aM.mono m),(aL.mono m),trivial⟩ ?_))))))
 clear a;rintro⟨L,b,M,E,al,W,am⟩ bT bU y ⟨a,O,Z,_⟩;rcases L with _|L;exact j5 a;replace a:oz N inputs key next x23 x62 (L+1) b M E=some az:=a;rw [oz] at a;refine zq (zx (jg rfl rfl) (ze (qc (zy rfl a (fun a=>?_) (fun a=>?_)))))
 refine qi ?_;obtain⟨P,l,a⟩:=zu a
 refine qz (γ:=(List ((List UInt8)×Bool)×List Sb)×Frag×Value×Frag) (rs [15,16,18,21,54,80]) (fun g=>[(15,g.2.2.1)]) (fun g=>[g.2.1,g.2.2.2,box ag [(.int .u16 ((ix x23 x62).fJ)),U] 111,F]++A) (fun g R=>P=g.1∧MRep z3k Value.bool R g.2.1 v6 g.1.1∧ORep (yf false) R g.2.2.2 g.2.2.1 g.1.2∧True) ?_ ?_
 refine qj (zq (zh (vi b) (zk (vi b) (jb (zh n (zx (ko zun rfl) (zx (ku (i:=2) q39 rfl rfl rfl) (zh (vi b) ?_))))))));obtain⟨h,aO,l⟩:=zu l
 refine z5e rfl rfl rfl ((ac.mono ((((q.trans C).trans s).trans m).trans y)) _ (RH.le.refl _) ((ix x23 x62).fJ) b _ _ _ (ql.2 rfl) (ql.2 rfl) aO) fun bV bW e aP=>?_;obtain rfl:=ql.1 aP;refine zk (.int .u16 h) (jb (zh o (zh (.int .u16 h) ?_)));obtain⟨t,aQ,l⟩:=zu l
 refine z5e rfl rfl rfl ((Q.mono (((((q.trans C).trans s).trans m).trans y).trans e)) _ (RH.le.refl _) h _ _ (ql.2 rfl) aQ) fun bX bY f aR=>?_;obtain rfl:=z9o.1 aR
 refine zk (z3k t) (jb (zh v6 (zh (z3k t) (zx (zgt (k:=t) underlying113 ko9 mz4 (zp4 (i:=0) rfl (O.mono (e.trans f))) rfl rfl) (zx (fo rfl) (ze (zy rfl l (fun l=>?_) (fun l=>?_))))))))
 refine zq (zh v6 (zh (z3k t) (zdr (i:=0) (k:=t) (u:=true) underlying113 ko9 rfl (O.mono (e.trans f)) rfl rfl rfl fun aS aT=>?_)));refine ze (q8 (zh W (zh (.int .u16 h) (zx (ko zvp rfl) (zx (ku (i:=2) zy1 rfl rfl rfl) ?_)))));obtain⟨an,aU,l⟩:=zu l
 refine jh rfl zth rfl (z2z (aB.mono (((m.trans y).trans e).trans f)) aU) fun bZ b0 G aV=>?_;refine zh (vi b) (dh (T:=(zz .i64)) (X:=([b]:List Int)) (ps:=[(0,(vi b))]) (css:=[[(vi b)]]) rfl underlying30 zo3 rfl rfl (kw ⟨rfl,trivial⟩) rfl rfl (by decide) fun aW b1 ah aX=>?_)
 refine wh (i:=0) rfl aX fun aY z aZ=>?_;have a0:VRep (tSl true (zz .i64)) aY aW ([b]:List Int):=(z4e aZ ah);obtain⟨aa,l⟩:=zg l;refine zkr rfl underlying30 zo3 rfl rfl (aV.mono z) (jo (Sub.v (B:=(tSl false (zz .i64))) (um Sub.refl (fun _=>rfl)) a0)) aa.1.1 aa.1.2 aa.2 fun x b2 ao=>?_
 refine zx (za0 [(0,(.int .u16 h)),(1,(.agg #[x]))] (ps:=[(0,(.int .u16 h)),(1,x)]) (v:=(.agg #[(.int .u16 h),x])) rfl (by simp only [List.map_cons,List.map_nil,z6b ao];rfl) (fun w=>by kernel_rfl)) (wh (i:=0) rfl ao fun a1 H a2=>?_);have a3:VRep (tSl false (zz .i64)) a1 x (an++([b]:List Int)):=(z6x a2)
 let G1:=([(⟨h,(an++([b]:List Int))⟩:Sb)]:List Sb);refine dh (T:=(yf false)) (X:=G1) (ps:=[(0,(.agg #[(.int .u16 h),x]))]) (css:=[[(.int .u16 h),x]]) rfl underlying112 zz5 rfl rfl (kw ⟨⟨_,_,rfl,rfl,(kg rfl a3)⟩,trivial⟩) rfl rfl (by decide) fun a4 b3 ai a5=>?_
 refine wh (i:=0) rfl a5 fun a6 I a7=>?_;have a8:VRep (tSl true (yf false)) a6 a4 G1:=(z4e a7 ai);obtain⟨ap,l⟩:=zg l
 refine di (i:=1) (X:=E) (Y:=G1) rfl underlying112 zz5 rfl rfl rfl (Z.mono (((((e.trans f).trans G).trans z).trans H).trans I)) (jo (Sub.v (B:=(tSl false (yf false))) (um Sub.refl (fun _=>rfl)) a8)) ap.1 ap.2 fun aq a9 ba=>?_;refine zk aq (ze ?_)
 exact⟨dkt,(((((e.trans f).trans G).trans z).trans H).trans I),ji,(((z8a M t true),(E++G1)),aS,aq,a9),⟨rfl,trivial⟩,prm,(Option.some.inj l).symm,(aT.mono (((G.trans z).trans H).trans I)),ba,trivial⟩;refine qi ?_
 exact⟨dkt,(e.trans f),ji,((M,E),al,W,am),⟨rfl,trivial⟩,prm,(Option.some.inj l).symm,(O.mono (e.trans f)),(Z.mono (e.trans f)),trivial⟩;rintro⟨P,bb,bc,be⟩ b4 b5 aD ⟨rfl,bf,bg,_⟩;refine q8 ?_;obtain⟨bh,a⟩:=zg a;refine zx (ja rfl rfl bh) (zh (vi (b+1)) (ze ?_))
 exact⟨dkt,aD,ji,(L,b+1,P.1,P.2,bb,bc,be),Nat.lt_succ_self _,⟨rfl,rfl,trivial⟩,prm,a,bf,bg,trivial⟩;refine jk ?_
 exact⟨dkt,(m.trans y),ji,((M,E),al,W,am),⟨rfl,trivial⟩,⟨[box ag [(.int .u16 ((ix x23 x62).fJ)),U] 111],(pk 2 rfl (pk 0 rfl (pk 0 rfl (pk 0 rfl (List.Perm.refl _)))))⟩,(Option.some.inj a).symm,O,Z,trivial⟩;rintro⟨bi,bD,bE,bF⟩ b6 cp bj ⟨rfl,bG,bH,_⟩;replace d:=z1c d;refine q8 ?_;obtain⟨bk,d⟩:=zg d
 refine zx (ja rfl rfl bk) (zh (vi (x62+1)) (ze ?_));exact⟨dkt,bj,ji,(af,bi.2,x62+1,bi.1,bE,bF,bD),Nat.lt_succ_self _,⟨rfl,rfl,trivial⟩,⟨[],(pk 0 rfl (pk 1 rfl (pk 0 rfl (List.Perm.refl _))))⟩,d,bH,bG,trivial⟩;refine jk ?_
 exact⟨dkt,s,ji,((av,aw),aK,ax,ay),⟨rfl,trivial⟩,⟨[F],(pk 1 rfl (pk 0 rfl (pk 0 rfl (List.Perm.refl _))))⟩,(Option.some.inj d).symm,aL,aM,trivial⟩;rintro⟨bl,aE,bI,bJ⟩ b7 cq bm ⟨rfl,bK,bL,_⟩;replace c:=z1c c;refine q8 (zh aE (zk aE (ze (q8 (zh (vi S) ?_)))));obtain⟨bo,c⟩:=zg c
 refine zx (ja rfl rfl bo) (zk (vi (S+1)) (ze ?_));exact⟨dkt,bm,ji,(ad,bl.1,S+1,bl.2,aE,bI,bJ),Nat.lt_succ_self _,⟨rfl,rfl,trivial⟩,prm,c,bK,bL,trivial⟩;refine jk ?_;exact⟨dkt,C,ji,(),trivial,⟨[aJ,F],(List.Perm.refl _)⟩,(Option.some.inj c).symm,trivial⟩;rintro cr b8 cs bp ⟨rfl,_⟩;replace p:=z1c p
 refine zq (zk vs0 (zk (vi 7) (ze (qp ?_))));obtain rfl:=Option.some.inj p;refine qm (D:=[]) (J:=[]) (rs:=[.tmp 10,.tmp 11]) (vs:=[vs0,(vi 7)]) (q.trans bp) rfl rfl ⟨rfl,rfl,trivial⟩ ?_;exact⟨rfl,⟨vs0,rfl,z3j⟩⟩
theorem q54:Enters prog 35:=enters_of func35 rfl (by kernel_rfl)
theorem qb2:Enters prog 34:=enters_of func34 rfl (by kernel_rfl)
theorem zxz:ZeroOk prog 68 (zz .u16) (0:Int) 2:=by
 obtain⟨i,zv,hi,a,c,d,f⟩:=z4z (P:=prog) (e:=68) (zv:=(.int .u16 0)) (k:=1) (b:=2) (by kernel_rfl);exact⟨i,zv,hi,a,c,d,fun R=>by subst f;exact rfl⟩
theorem zo5:ZeroOk prog 5 (zz .u8) (0:Int) 1:=by
 obtain⟨i,zv,hi,a,c,d,f⟩:=z4z (P:=prog) (e:=5) (zv:=(.int .u8 0)) (k:=1) (b:=1) (by kernel_rfl);exact⟨i,zv,hi,a,c,d,fun R=>by subst f;exact rfl⟩
theorem zis{N:Nat}{R:RH}{d:(List Int)}{c:Value}(h:VRep (tSl false (zz .u16)) R c d){r:(List UInt8)}(e:z8u N d=some r):CallP prog 37 #[c] R (fun v R'=>v=(z3k r)):=by
 refine qw (args:=[c]) func37 rfl rfl fun A=>?_;rw [z8u] at e;refine zq (zk (z3k []) (jb (zk vs0 (ze ?_))));obtain⟨l,a,e⟩:=zu e;refine qz (γ:=(List Int)×Value×Frag) (rs [3,4,5,21]) (fun g=>[(3,g.2.1)]) (fun g=>[g.2.2]++A) (fun g R=>l=g.1∧ORep (zz .u8) R g.2.2 g.2.1 g.1∧True) ?_ ?_
 refine zq (zh c (zx (j4 rfl underlying23 rfl (jo h)) (zh (vi 0) (ze (qj (z5s ?_))))))
 refine jf (γ:=Nat×(List Int)×Int×Value×Frag) (rs [3,4,5,6,8,21]) (fun g=>[(3,g.2.2.2.1),(8,(vi g.2.2.1))]) (fun g=>[g.2.2.2.2]++A) (fun g R=>z3z N d g.1 g.2.1 g.2.2.1=some l∧ORep (zz .u8) R g.2.2.2.2 g.2.2.2.1 g.2.1∧True) (fun g=>g.1) (N,[],0,vs0,emp) prm ⟨a,(z2c (T:=(zz .u8))),trivial⟩ ?_;clear a
 rintro⟨u,f,b,n,w⟩ U V j ⟨a,o,_⟩;rcases u with _|u;exact j5 a;replace a:z3z N d (u+1) f b=some l:=a;rw [z3z] at a;refine zq (zx (jg rfl rfl) (ze (qc (zy rfl a (fun a=>?_) (fun a=>?_)))));refine qi (qc (qj (zq ?_)));obtain⟨p,a⟩:=zg a
 refine p8 (i:=b.toNat) rfl o7 rfl (jo (h.mono j)) (zt rfl p.1) (qd p) fun W x=>?_;refine jc rfl og rfl x fun Z y=>?_;obtain rfl:=ql.1 y;refine zk (.int .u16 (ix d b)) (ze (q8 (zh n (zh (.int .u16 (ix d b)) ?_))));obtain⟨z,a⟩:=zg a
 refine zx (z7f rfl rfl z) (zx (z5k underlying68 underlying5 rfl) (zh (.int .u16 (ix d b)) (zx (z5k underlying68 underlying5 rfl) ?_)));let G1:=([IntKind.u8.wrap (qg (ix d b) (8:Int)),IntKind.u8.wrap (ix d b)]:List Int)
 refine dh (T:=(zz .u8)) (X:=G1) (ps:=[(0,(.int .u8 (IntKind.u8.wrap (qg (ix d b) (8:Int))))),(1,(.int .u8 (IntKind.u8.wrap (ix d b))))]) (css:=[[(.int .u8 (IntKind.u8.wrap (qg (ix d b) (8:Int))))],[(.int .u8 (IntKind.u8.wrap (ix d b)))]]) rfl underlying22 zo5 rfl rfl (kw ⟨rfl,rfl,trivial⟩) rfl rfl (by decide) fun C aa m E=>?_
 refine wh (i:=0) rfl E fun F k G=>?_;have H:VRep (tSl true (zz .u8)) F C G1:=(z4e G m);obtain⟨q,a⟩:=zg a;refine di (i:=0) (X:=f) (Y:=G1) rfl underlying22 zo5 rfl rfl rfl (o.mono k) (jo (Sub.v (B:=(tSl false (zz .u8))) (um Sub.refl (fun _=>rfl)) H)) q.1 q.2 fun s I K=>?_
 refine zk s (ze (q8 ?_));obtain⟨L,a⟩:=zg a;refine zx (ja rfl rfl L) (zh (vi (b+1)) (ze ?_));exact⟨dkt,k,ji,(u,(f++G1),b+1,s,I),Nat.lt_succ_self _,⟨rfl,rfl,trivial⟩,prm,a,K,trivial⟩;refine jk ?_;exact⟨dkt,j,ji,(f,n,w),⟨rfl,trivial⟩,prm,(Option.some.inj a).symm,o,trivial⟩
 rintro⟨l,S,f5⟩ ab R2 M ⟨rfl,h6,_⟩;refine zq (zh S (wh (i:=0) rfl h6 fun O t P=>?_));have Q:VRep (tSl false (zz .u8)) O S l:=(z6x P);refine zx (zvn underlying22 underlying5 underlying9 rfl (jo Q)) (zk (z3k (zcq l)) (ze (qp ?_)));obtain rfl:=Option.some.inj e
 refine qm (D:=[]) (J:=[]) (rs:=[.tmp 2]) (vs:=[(z3k (zcq l))]) (M.trans t) rfl rfl ⟨rfl,trivial⟩ ?_;exact⟨rfl,rfl⟩
theorem q9u:Enters prog 37:=enters_of func37 rfl (by kernel_rfl)
theorem zl6{N:Nat}{R:RH}{x:Int}{r:(List UInt8)}(a:z7x N x=some r):CallP prog 36 #[(.int .u16 x)] R (fun v R'=>v=(z3k r)):=by
 refine qw (args:=[(.int .u16 x)]) func36 rfl rfl fun A=>?_;rw [z7x] at a;refine zq (zk (z3k []) (jb (zh (.int .u16 x) (dh (T:=(zz .u16)) (X:=([x]:List Int)) (ps:=[(0,(.int .u16 x))]) (css:=[[(.int .u16 x)]]) rfl underlying23 zxz rfl rfl (kw ⟨rfl,trivial⟩) rfl rfl (by decide) fun h i b j=>?_))))
 obtain⟨c,d,a⟩:=zu a;refine z9b (cs:=[]) (vs:=[h]) (φ:=fun v=>v=(z3k c)) rfl q9u rfl rfl (fun k e f=>zis (Sub.v (B:=(tSl false (zz .u16))) (um Sub.refl (fun _=>rfl)) (z4e (t:=true) ((z6y 0 rfl j e f):VRep (yz (zz .u16)) k h ([x]:List Int)) b)) d) fun l g=>?_;obtain rfl:=g
 refine zk (z3k c) (ze (qp ?_));obtain rfl:=Option.some.inj a;refine qm (D:=[]) (J:=[i]) (rs:=[.tmp 2]) (vs:=[(z3k c)]) (RH.le.refl _) rfl rfl ⟨rfl,trivial⟩ ?_;exact⟨rfl,rfl⟩
theorem qbj:Enters prog 36:=enters_of func36 rfl (by kernel_rfl)
theorem z95{N:Nat}{R:RH}{x:Int}{r:Int}(d:z2a N x=some r):CallP prog 33 #[(.int .u16 x)] R (fun v R'=>v=(vi r)):=by
 refine qw (args:=[(.int .u16 x)]) func33 rfl rfl fun A=>?_;rw [z2a] at d;refine zq (zk (vi 0) (ze (qc ?_)));obtain⟨t,p,u,q,w,d⟩:=zzh d
 refine xq 9 [] [phX (.int .u16 x),phX (.int .u16 (qg x (8:Int))),phX (.int .u8 (ix strT1 (qg x (8:Int)))),phX (.int .u16 x),phX (.int .u16 (zn x 255)),phX (.int .u8 (ix strT1 (zn x 255))),phX (.int .u8 (IntKind.u8.wrap ((ix strT1 (qg x (8:Int)))+(ix strT1 (zn x 255))))),phX (vi (IntKind.u8.wrap ((ix strT1 (qg x (8:Int)))+(ix strT1 (zn x 255))))),phX (vi (IntKind.u8.wrap ((ix strT1 (qg x (8:Int)))+(ix strT1 (zn x 255)))))] mixed (by kernel_rfl) (wz ⟨zi,zi,zi,zi,zi,zi,zi,zi,zi,trivial⟩) ⟨?_,?_,?_,?_,?_,?_,?_,?_,?_,trivial⟩ fun W e=>?_
 intro l y a c hd;exact zf rfl rfl rfl (zo (z8 (c 0 rfl)));rintro l z a c ⟨b,_⟩;exact zf rfl rfl rfl (zo (z7f (b rfl) rfl t));rintro l B a c ⟨b,_⟩;exact zf rfl rfl rfl (zo (zhg (i:=(qg x (8:Int)).toNat) (L:=strT1) underlying9 rfl (by kernel_rfl) (zt (b rfl) p.1) (qd p)));intro l C a c hd
 exact zf rfl rfl rfl (zo (z8 (c 0 rfl)));rintro l E a c ⟨b,_⟩;exact zf rfl rfl rfl (zo (z8n (b rfl) rfl u));rintro l F a c ⟨b,_⟩;exact zf rfl rfl rfl (zo (zhg (i:=(zn x 255).toNat) (L:=strT1) underlying9 rfl (by kernel_rfl) (zt (b rfl) q.1) (qd q)));rintro l G a c ⟨b,s,_⟩
 exact zf rfl rfl rfl (zo (zbq (b rfl) (s rfl)));rintro l H a c ⟨b,_⟩;exact zf rfl rfl rfl (zo (z1t underlying5 underlying3 (b rfl) w));rintro l I a c ⟨b,s,X,Y,Z,d5,d6,d7,d8,_⟩;exact zf rfl rfl rfl (zo (z1d (b rfl)));intro v8 K M f O g P h Q j S k T m U n V o
 obtain rfl:=Eq.symm K;obtain rfl:=Eq.symm f;obtain rfl:=Eq.symm g;obtain rfl:=Eq.symm h;obtain rfl:=Eq.symm j;obtain rfl:=Eq.symm k;obtain rfl:=Eq.symm m;obtain rfl:=Eq.symm n;obtain rfl:=Eq.symm o;refine ze (qp ?_);obtain rfl:=Option.some.inj d
 refine qm (D:=[]) (J:=[]) (rs:=[.tmp 2]) (vs:=[(vi (IntKind.u8.wrap ((ix strT1 (qg x (8:Int)))+(ix strT1 (zn x 255)))))]) e rfl rfl ⟨rfl,trivial⟩ ?_;exact⟨rfl,rfl⟩
theorem q7q:Enters prog 33:=enters_of func33 rfl (by kernel_rfl)
theorem zkv{N:Nat}{R:RH}{x:Int}{r:Bool}(a:z8d N x=some r):CallP prog 32 #[(.int .u16 x)] R (fun v R'=>v=(.bool r)):=by
 refine qw (args:=[(.int .u16 x)]) func32 rfl rfl fun A=>?_;rw [z8d] at a;refine zq (zk (.bool false) (jb (zh (.int .u16 x) ?_)));obtain⟨c,d,a⟩:=zu a;refine jh rfl q7q rfl (z95  d) fun f g b e=>?_;obtain rfl:=e;refine zx (xk rfl rfl) (zk (.bool (decide (c=1))) (ze (qp ?_)))
 obtain rfl:=Option.some.inj a;refine qm (D:=[]) (J:=[]) (rs:=[.tmp 2]) (vs:=[(.bool (decide (c=1)))]) b rfl rfl ⟨rfl,trivial⟩ ?_;exact⟨rfl,rfl⟩
theorem qb8:Enters prog 32:=enters_of func32 rfl (by kernel_rfl)
theorem zot:FieldOk prog 77 0 0:=by
 obtain⟨i,hi,a⟩: ∃ i,prog.info? 28=some i∧i.size=3:=uy (by kernel_rfl);exact dn underlying77 rfl rfl hi (by rw [a];rfl)
theorem zi6{N:Nat}{R:RH}{l:Sg}{d:Value}(m:VRep (z2h false false) R d l){x:Int}{i:Int}{r:Int}(e:z4n N l x i=some r):CallP prog 38 #[d,(.int .u16 x),(vi i)] R (fun v R'=>v=(.int .u16 r)):=by
 refine qw (args:=[d,(.int .u16 x),(vi i)]) func38 rfl rfl fun A=>?_;rw [z4n] at e;refine zq (vv (T:=(z2h false false)) rfl rfl rfl m fun v1 R3 t h5 M=>?_);refine zk (.int .u16 0) (ze ?_);obtain⟨j,b,e⟩:=zu e
 refine qz (γ:=Int) (rs [6,32]) (fun g=>[(6,(.int .u16 g))]) (fun g=>[]++A) (fun g R=>j=g∧True) ?_ ?_;refine zq (jq rfl zot z88 rfl M fun v9 u=>?_);refine jq rfl xh wm rfl u fun O w=>?_;refine jc rfl z4w rfl w fun P n=>?_
 refine zx (j4 rfl underlying26 rfl (jo n)) (zh (vi 0) (ze (qj (jf (γ:=Nat×Int×Int) (rs [6,9,13,32]) (fun g=>[(6,(.int .u16 g.2.1)),(13,(vi g.2.2))]) (fun g=>[]++A) (fun g R=>z0l N l x i g.1 g.2.1 g.2.2=some j∧True) (fun g=>g.1) (N,0,0) prm ⟨b,trivial⟩ ?_))));clear b
 rintro⟨f,x16,c⟩ Q S h ⟨b,_⟩;rcases f with _|f;exact j5 b;replace b:z0l N l x i (f+1) x16 c=some j:=b;rw [z0l] at b;refine zq (zx (jg rfl rfl) (ze (qc (zy rfl b (fun b=>?_) (fun b=>?_)))));refine qi ?_;obtain⟨k,a,b⟩:=zu b
 refine qz (γ:=Int) (rs [6,9,15,31]) (fun g=>[(6,(.int .u16 g))]) (fun g=>[]++A) (fun g R=>k=g∧True) ?_ ?_;refine qj (zq (zh (vi c) ?_));obtain⟨o,a⟩:=zg a;refine p8 (i:=c.toNat) rfl zeg rfl (jo (n.mono h)) (zt rfl o.1) (qd o) fun U y=>?_;refine jc rfl zdn rfl y fun p z=>?_
 refine zk (vi c) (zk p (jb (zh (.int .u16 x) (zh (vi c) ?_))));obtain⟨B,a⟩:=zg a;refine zx (z7f rfl rfl B) ?_;obtain⟨C,a⟩:=zg a;refine zx (z8n rfl rfl C) (zx (xk rfl rfl) (ze (zy rfl a (fun a=>?_) (fun a=>?_))));refine q8 (zh (.int .u16 x16) (zh p (zh (vi i) ?_)))
 obtain⟨q,a⟩:=zg a;refine p8 (i:=i.toNat) rfl zf7 rfl (jo z) (zt rfl q.1) (qd q) fun V E=>?_;refine jq rfl z7c z7t rfl E fun W F=>?_;refine jc rfl ty3 rfl F fun X G=>?_;obtain rfl:=ql.1 G;obtain⟨H,a⟩:=zg a;refine zx (zdq rfl rfl H) ?_;obtain⟨I,a⟩:=zg a
 refine zx (zw3 rfl rfl I) (zk (.int .u16 (ior x16 (z0k .u16 (1:Int) ((ix (ix l.fK.rows c) i).to)))) (ze ?_));exact⟨dkt,(RH.le.refl _),ji,ior x16 (z0k .u16 (1:Int) ((ix (ix l.fK.rows c) i).to)),⟨rfl,trivial⟩,prm,(Option.some.inj a).symm,trivial⟩;refine qi ?_;exact⟨dkt,(RH.le.refl _),ji,x16,⟨rfl,trivial⟩,prm,(Option.some.inj a).symm,trivial⟩
 rintro k Y Z s ⟨rfl,_⟩;refine q8 ?_;obtain⟨K,b⟩:=zg b;refine zx (ja rfl rfl K) (zh (vi (c+1)) (ze ?_));exact⟨dkt,s,ji,(f,k,c+1),Nat.lt_succ_self _,⟨rfl,rfl,trivial⟩,prm,b,trivial⟩;refine jk ?_;exact⟨dkt,h,ji,x16,⟨rfl,trivial⟩,prm,(Option.some.inj b).symm,trivial⟩;rintro j aa R7 L ⟨rfl,_⟩
 refine zq (zh (.int .u16 j) (zk (.int .u16 j) (ze (qp ?_))));obtain rfl:=Option.some.inj e;refine qm (D:=[]) (J:=[]) (rs:=[.tmp 6]) (vs:=[(.int .u16 j)]) (t.trans L) rfl rfl ⟨rfl,trivial⟩ ?_;exact⟨rfl,rfl⟩
theorem qbg:Enters prog 38:=enters_of func38 rfl (by kernel_rfl)
theorem z98{N:Nat}{R:RH}{m:Mach}{p:Value}(n:VRep (kv false false) R p m){r:(List Int)×Int}(b:z2m N m=some r):CallP prog 8 #[p] R (fun v R'=> ∃ k,v= .tuple #[k,(vi r.2)]∧VRep (tSl true (zz .i64)) R' k r.1):=by
 refine qw (args:=[p]) func8 rfl rfl fun A=>?_;rw [z2m] at b;refine zq (vv (T:=(kv false false)) rfl rfl rfl n fun v1 R3 j F h2=>?_);refine zk vs0 (zk (vi 0) (ze (qc (zq (zx (ui z4v rfl rfl F (n.mono j)) ?_)))));obtain⟨u,c7,b⟩:=zu b
 refine jh rfl zx9 rfl (z7i (n.mono j) c7) fun v8 az d h9=>?_;obtain rfl:=h9;refine zk (vi u) (jb (zh (vi u) (zx (u6 rfl rfl) (ze (zy rfl b (fun b=>?_) (fun b=>?_))))));refine zq (zh (vi u) (zk vs0 (zk (vi u) (ze (qp ?_)))));obtain rfl:=Option.some.inj b
 refine qm (D:=[]) (J:=[]) (rs:=[.tmp 2,.tmp 3]) (vs:=[vs0,(vi u)]) (j.trans d) rfl rfl ⟨rfl,rfl,trivial⟩ ?_;exact⟨rfl,⟨vs0,rfl,z3j⟩⟩;refine qi (qc (zq (jq rfl xh wm rfl (h2.mono d) fun aB G=>?_)));refine jc rfl z4w rfl G fun aC H=>?_
 refine zx (j4 rfl underlying26 rfl (jo H)) (zx (l5 rfl rfl) (ze (zy rfl b (fun b=>?_) (fun b=>?_))));refine zq (zk vs0 (zk (vi 3) (ze (qp ?_))));obtain rfl:=Option.some.inj b
 refine qm (D:=[]) (J:=[]) (rs:=[.tmp 2,.tmp 3]) (vs:=[vs0,(vi 3)]) (j.trans d) rfl rfl ⟨rfl,rfl,trivial⟩ ?_;exact⟨rfl,⟨vs0,rfl,z3j⟩⟩;refine qi (zq (zk (.func (.func 32) #[] #[]) (ze (qc ?_))));obtain⟨c,rfl,o⟩:=z5l (n.mono (j.trans d));obtain⟨q,I,b⟩:=zu b
 obtain⟨i,K,b⟩:=zu b
 refine xq 13 [] [phP (zz .i64) m.inputs,phX (vi m.inputs),phX (.agg #[(vi m.inputs),(vi m.outputs),c]),phX (.int .u16 q),phX (.func (.func 32) #[] #[]),phX (.agg #[(vi m.inputs),(vi m.outputs),c]),phX (.agg #[(vi m.inputs),(vi m.outputs),c]),phX (.func (.func 38) #[(.agg #[(vi m.inputs),(vi m.outputs),c])] #[]),(fun v R=> ∃ k,v= .tuple #[k,(vi i.2)]∧VRep (tSl true (zz .i64)) R k i.1),phR (tSl true (zz .i64)) i.1,phX (vi i.2),phR (tSl true (zz .i64)) i.1,phX (vi i.2)] mixed (by kernel_rfl) (wz ⟨z1f,zi,zi,zi,zi,zi,zi,zi,(fun _ _ _ le ⟨k,e,s⟩=>⟨k,e,s.mono le⟩),z2t,zi,z2t,zi,trivial⟩) ⟨?_,?_,?_,?_,?_,?_,?_,?_,?_,?_,?_,?_,?_,trivial⟩ fun aD x=>?_
 intro l aE a g hd;exact zf rfl rfl rfl (z3t z1k z2g (g 1 rfl) ((h2.mono d).mono a));rintro l aF a g ⟨f,_⟩;exact zf rfl rfl rfl (jm (nz ty3 rfl (f rfl)) (fun _ _ h=>ql.1 h));intro l aG a g hd
 exact zf rfl rfl rfl (zo (ui z4v rfl (g 1 rfl) ((F.mono d).mono a) (⟨_,⟨_,_,rfl,rfl,⟨_,_,rfl,rfl,(kg rfl (o.mono a))⟩⟩,rfl⟩:VRep (kv false false) _ _ (⟨m.inputs,m.outputs,m.rows⟩:Mach))));rintro l aH a g ⟨f,_⟩;have L:l 17=(.agg #[(vi m.inputs),(vi m.outputs),c]):=f rfl
 exact zf rfl rfl rfl (kz (vs:=[(.agg #[(vi m.inputs),(vi m.outputs),c])]) q54 (by simp only [List.map,ev,L]<;>rfl) (zf6 (⟨_,⟨_,_,rfl,rfl,⟨_,_,rfl,rfl,(kg rfl (o.mono a))⟩⟩,rfl⟩:VRep (kv false false) _ _ (⟨m.inputs,m.outputs,m.rows⟩:Mach)) I) (fun _ _ h=>h));intro l aI a g hd
 exact zf rfl rfl rfl (zo (z8 (g 5 rfl)));intro l aJ a g hd;exact zf rfl rfl rfl (zo (ui z4v rfl (g 1 rfl) ((F.mono d).mono a) (⟨_,⟨_,_,rfl,rfl,⟨_,_,rfl,rfl,(kg rfl (o.mono a))⟩⟩,rfl⟩:VRep (kv false false) _ _ (⟨m.inputs,m.outputs,m.rows⟩:Mach))));rintro l aK a g ⟨f,_⟩
 have M:l 20=(.agg #[(vi m.inputs),(vi m.outputs),c]):=f rfl;exact zf rfl rfl rfl (zo (bn (ps:=[(0,(.agg #[(vi m.inputs),(vi m.outputs),c]))]) (v:=(.agg #[(vi m.inputs),(vi m.outputs),c])) (by simp only [List.map,ev,M]<;>rfl) (fun w=>by kernel_rfl)));rintro l aL a g ⟨f,_⟩
 have O:l 21=(.agg #[(vi m.inputs),(vi m.outputs),c]):=f rfl;exact zf rfl rfl rfl (zo (z6d (fs:=[(.agg #[(vi m.inputs),(vi m.outputs),c])]) (cs:=[]) (by simp only [List.map,ev,O]<;>rfl) rfl));rintro l aM a g ⟨f,P,Q,S,d4,_⟩;have U:l 16=(vi m.inputs):=f rfl
 have V:l 18=(.int .u16 q):=P rfl;have W:l 19=(.func (.func 32) #[] #[]):=Q rfl;have X:l 22=(.func (.func 38) #[(.agg #[(vi m.inputs),(vi m.outputs),c])] #[]):=S rfl
 exact zf rfl rfl rfl (kz (vs:=[(vi m.inputs),(.int .u16 q),(.func (.func 36) #[] #[]),(.func (.func 32) #[] #[]),(.func (.func 38) #[(.agg #[(vi m.inputs),(vi m.outputs),c])] #[])]) qb2 (by simp only [List.map,ev,U,V,W,X]<;>rfl) (zep ((zb7 (cs:=[]) qbj fun R1 Y z0 k y s z=>by obtain rfl:=ql.1 s;exact CallP.mono (zl6  z) fun v R2 _ B=>z9o.2 B).mono a) ((zb7 (cs:=[]) qb8 fun R1 Y z0 k y s z=>by obtain rfl:=ql.1 s;exact CallP.mono (zkv  z) fun v R2 _ B=>z2s.2 B).mono a) ((zm3 (fs:=[(.agg #[(vi m.inputs),(vi m.outputs),c])]) qbg fun R1 Y z0 z1 k u1 y s k1 z=>by obtain rfl:=ql.1 s;obtain rfl:=ql.1 k1;exact CallP.mono (zi6 (VRep.mono (⟨_,⟨_,_,rfl,rfl,⟨_,_,rfl,rfl,(kg rfl o)⟩⟩,rfl⟩:VRep (z2h false false) _ _ (⟨(⟨m.inputs,m.outputs,m.rows⟩:Mach)⟩:Sg)) Y) z) fun v R2 _ B=>ql.2 B).mono a) K) (fun _ _ h=>h))
 rintro l aO a g ⟨f,_⟩;have t:=f rfl;obtain⟨k,Z,C⟩:=t;exact zf rfl rfl rfl (zsk (qx Z rfl) C);rintro l av a g ⟨f,_⟩;have t:=f rfl;obtain⟨k,Z,C⟩:=t;exact zf rfl rfl rfl (zo (qx Z rfl));rintro l aw a g ⟨f,P,Q,S,d4,d5,d6,d7,d8,d9,aa,ab,ac,_⟩
 exact zf rfl rfl rfl (zsk (z1d rfl) (f rfl));rintro l ax a g ⟨f,P,Q,S,d4,d5,d6,d7,d8,d9,aa,ab,ac,aU,_⟩;exact zf rfl rfl rfl (zo (z1d (f rfl)));intro aV aW aX ad aY ae aZ af a0 ag a1 ah a2 ai a3 aj a4 ak a5 a6 a7 al E am a8 an;obtain rfl:=Eq.symm ad;obtain rfl:=Eq.symm ae;obtain rfl:=Eq.symm af
 obtain rfl:=Eq.symm ag;obtain rfl:=Eq.symm ah;obtain rfl:=Eq.symm ai;obtain rfl:=Eq.symm aj;obtain⟨a9,rfl,ba⟩:=ak;obtain rfl:=Eq.symm al;obtain rfl:=Eq.symm an;refine ze (qp ?_);obtain rfl:=Option.some.inj b;refine qm (D:=[]) (J:=[]) (rs:=[.tmp 2,.tmp 3]) (vs:=[E,(vi i.2)]) ((j.trans d).trans x) rfl rfl ⟨rfl,rfl,trivial⟩ ?_
 exact⟨rfl,⟨E,rfl,am⟩⟩
theorem en8:Enters prog 8:=enters_of func8 rfl (by kernel_rfl)
theorem zzf{a c:Bool}:ZeroOk prog 115 (w9 a c) (⟨([]:List Int),([]:List Int)⟩:Sa) 48:=by
 obtain⟨i,zv,hi,d,f,g,h⟩:=z4z (P:=prog) (e:=115) (zv:=(.agg #[vs0,vs0])) (k:=2) (b:=48) (by kernel_rfl);exact⟨i,zv,hi,d,f,g,fun R=>by subst h;exact⟨_,_,rfl,(kg rfl z3j),(kg rfl z3j)⟩⟩
theorem q4x{a b:Bool}:TyOk prog 115 (w9 a b):=by
 obtain⟨i,hi,c⟩: ∃ i,prog.info? 115=some i∧i.size=2:=uy (by kernel_rfl);exact z5p underlying115 hi rfl c
theorem q8t{a b:Bool}:SlOk prog 116 115 (w9 a b):=⟨underlying116,q4x⟩
theorem q9t: ∀ w,∃ z,(zeroValue 115).run prog w= .ok z w∧z.cells=([.slice none 0 0,.slice none 0 0]:List Value).toArray:=fun w=>⟨(.agg #[vs0,vs0]),by kernel_rfl,rfl⟩
theorem q8y: ∀ w,(sizeOf 115).run prog w= .ok 2 w:=fun w=>by kernel_rfl
theorem zui:FieldOk prog 115 0 0:=by
 obtain⟨i,hi,a⟩: ∃ i,prog.info? 23=some i∧i.size=1:=uy (by kernel_rfl);exact dn underlying115 rfl rfl hi (by rw [a];rfl)
theorem q99: ∀ w,(isAgg 23).run prog w= .ok false w:=fun w=>by kernel_rfl
theorem zv6:FieldOk prog 115 1 1:=by
 obtain⟨i,hi,a⟩: ∃ i,prog.info? 30=some i∧i.size=1:=uy (by kernel_rfl);exact dn underlying115 rfl rfl hi (by rw [a];rfl)
theorem zds{N:Nat}{R:RH}{inputs:Int}{from_:(List Int)}{a:Value}(q:VRep (tSl false (zz .u16)) R a from_){key:(List Int)→Option (List UInt8)}{s:Value}(U:FOk1 prog R s (tSl false (zz .u16)) q3q key){is:(List Int)→Option Bool}{M:Value}(aJ:FOk1 prog R M (tSl false (zz .u16)) z16 is){next:(List Int)→Int→Option (List Int)}{p:Value}(ag:FOk2 prog R p (tSl false (zz .u16)) (zz .i64) (tSl false (zz .u16)) next){r:(List Int)×Int}(t:z4f N inputs from_ key is next=some r):CallP prog 40 #[(vi inputs),a,s,M,p] R (fun v R'=> ∃ u0,v= .tuple #[u0,(vi r.2)]∧VRep (tSl true (zz .i64)) R' u0 r.1):=by
 refine qw (args:=[(vi inputs),a,s,M,p]) func40 rfl rfl fun A=>?_;rw [z4f] at t
 refine zq (zk vs0 (zk (vi 0) (jb (zh a (zx (za0 [(0,(.agg #[a]))] (ps:=[(0,a)]) (v:=(.agg #[a,vs0])) rfl (by simp only [List.map_cons,List.map_nil,z4c q];rfl) (fun w=>by kernel_rfl)) (dh (T:=(w9 false false)) (X:=([(⟨from_,[]⟩:Sa)]:List Sa)) (ps:=[(0,(.agg #[a,vs0]))]) (css:=[[a,vs0]]) rfl underlying116 zzf rfl rfl (kw ⟨⟨_,_,rfl,(kg rfl q),(kg rfl z3j)⟩,trivial⟩) rfl rfl (by decide) fun v1 f2 bQ h4=>?_))))))
 refine zk v1 (jb (zh9 (ke:=z3k) (ve:=Value.bool) rfl fun v6 f7 h8=>?_));refine zh s (zh a ?_);obtain⟨aK,bt,t⟩:=zu t;refine z5e rfl rfl rfl (U _ (RH.le.refl _) from_ _ _ q bt) fun ce cf x bu=>?_;obtain rfl:=z9o.1 bu
 refine zdy (i:=0) (k:=aK) (u:=true) underlying113 ko9 rfl (h8.mono x) rfl rfl rfl fun bv bw=>?_;refine zh v6 (zk v6 (ze ?_));obtain⟨aw,d,t⟩:=zu t;refine qz (γ:=Unit) (rs [10,13,14,16,17,21,29,83]) (fun g=>[]) (fun g=>[]++A) (fun g R=>aw=Ex.go g∧True) ?_ ?_
 refine zq (zk (vi 0) (ze (qj (jf (γ:=Nat×(List Sa)×Int×(List ((List UInt8)×Bool))×Value×Frag×Frag) (rs [10,13,14,16,17,21,29,83]) (fun g=>[(12,g.2.2.2.2.1),(14,(vi g.2.2.1))]) (fun g=>[g.2.2.2.2.2.2,g.2.2.2.2.2.1]++A) (fun g R=>mo N inputs key is next g.1 g.2.1 g.2.2.1 g.2.2.2.1=some aw∧ORep (w9 false false) R g.2.2.2.2.2.1 g.2.2.2.2.1 g.2.1∧MRep z3k Value.bool R g.2.2.2.2.2.2 v6 g.2.2.2.1∧True) (fun g=>g.1) (N,([(⟨from_,[]⟩:Sa)]:List Sa),0,(z8a ([]:List ((List UInt8)×Bool)) aK true),v1,f2,bv) prm ⟨d,(h4.mono x),bw,trivial⟩ ?_))))
 clear d;rintro⟨ah,x23,V,aL,aM,K,aN⟩ bR cg H ⟨d,ai,bx,_⟩;rcases ah with _|ah;exact j5 d;replace d:mo N inputs key is next (ah+1) x23 V aL=some aw:=d;rw [mo] at d
 refine qc (zq (jd (v:=aM) rfl (z8 rfl) (jd rfl (z3l rfl underlying116 rfl ai) (jd rfl (l5 rfl rfl) (jd (v:=(.bool (decide (0<(↑x23.length:Int))))) rfl (z8 rfl) (qo rfl rfl rfl rfl (fun hB=>qf (v:=(vi V)) (z8 rfl)) fun ch bz=>?_))))))
 refine qo rfl rfl rfl rfl (fun hB=>qf (z5q (bz.1 (zl rfl hB)) rfl)) fun ci bA=>?_;refine jd rfl (uw rfl (fun hb=>(bA.1 (zl rfl hb))) rfl) (ze (zy rfl d (fun d=>?_) (fun d=>?_)));refine qi (qc (qj (zq (zk vs0 (ze ?_)))));obtain⟨ax,e,d⟩:=zu d
 refine qz (γ:=(List Sa×List ((List UInt8)×Bool))×Value×Frag×Frag) (rs [10,12,15,16,17,21,38,82]) (fun g=>[(15,g.2.1)]) (fun g=>[g.2.2.2,g.2.2.1]++A) (fun g R=>ax=Ex.go g.1∧ORep (w9 false false) R g.2.2.1 g.2.1 g.1.1∧MRep z3k Value.bool R g.2.2.2 v6 g.1.2∧True) ?_ ?_
 refine zq (zh aM (zx (z3l rfl underlying116 rfl ai) (zh (vi 0) (ze (qj (z5s ?_))))))
 refine jf (γ:=Nat×(List Sa)×Int×(List ((List UInt8)×Bool))×Value×Frag×Frag) (rs [10,12,15,16,17,21,40,82]) (fun g=>[(15,g.2.2.2.2.1),(40,(vi g.2.2.1))]) (fun g=>[g.2.2.2.2.2.2,K,g.2.2.2.2.2.1]++A) (fun g R=>mh N inputs key is next x23 g.1 g.2.1 g.2.2.1 g.2.2.2.1=some ax∧ORep (w9 false false) R g.2.2.2.2.2.1 g.2.2.2.2.1 g.2.1∧MRep z3k Value.bool R g.2.2.2.2.2.2 v6 g.2.2.2.1∧True) (fun g=>g.1) (N,[],0,aL,vs0,emp,aN) ⟨[],(pk 1 rfl (pk 1 rfl (pk 0 rfl (List.Perm.refl _))))⟩ ⟨e,(z2c (T:=(w9 false false))),bx,trivial⟩ ?_
 clear e;rintro⟨aj,ay,x62,az,aO,aA,aB⟩ bT ck y ⟨e,aP,aQ,_⟩;rcases aj with _|aj;exact j5 e;replace e:mh N inputs key is next x23 (aj+1) ay x62 az=some ax:=e;rw [mh] at e;refine zq (zx (jg rfl rfl) (ze (qc (zy rfl e (fun e=>?_) (fun e=>?_)))));refine qi ?_
 obtain⟨aC,b,e⟩:=zu e;refine qz (γ:=(List ((List UInt8)×Bool)×List Sa)×Frag×Value×Frag) (rs [10,12,15,16,17,21,42,81]) (fun g=>[(15,g.2.2.1)]) (fun g=>[g.2.1,g.2.2.2,K]++A) (fun g R=>aC=Ex.go g.1∧MRep z3k Value.bool R g.2.1 v6 g.1.1∧ORep (w9 false false) R g.2.2.2 g.2.2.1 g.1.2∧True) ?_ ?_
 refine qj (zq ?_);obtain⟨aD,b⟩:=zg b;refine z1o (i:=x62.toNat) rfl q8t rfl (ai.mono y) (zt rfl aD.1) (qd aD) fun cl bB=>?_;refine z7g (i:=x62.toNat) (j:=1) rfl q4x (ai.mono y) rfl rfl bB (qd aD) fun cm bC=>?_;refine r9 rfl q9t fun ak=>?_;obtain⟨W,Z,rfl,aE,aF⟩:=zby bC
 refine p9 (i:=0) (vs:=[W,Z]) q8y rfl rfl rfl rfl rfl rfl (jl (zbn aE) (jl (zbn aF) mq)) ?_;refine ze (qc (zq (zh M (zx (ko zui rfl) (zx (ku (i:=0) q99 rfl rfl rfl) ?_)))));obtain⟨cn,bD,b⟩:=zu b
 refine z5e rfl rfl rfl ((aJ.mono ((x.trans H).trans y)) _ (RH.le.refl _) ((ix x23 x62).fJ) _ _ aE bD) fun co cp m bE=>?_;obtain rfl:=z2s.1 bE;refine ze (zy rfl b (fun b=>?_) (fun b=>?_));refine zq (zx (ko zv6 rfl) (zx (ku (i:=0) zy1 rfl rfl rfl) ?_));obtain⟨bU,aR,b⟩:=zu b
 refine jh rfl zth rfl (z2z (aF.mono m) aR) fun aa bV aG aS=>?_;refine zk aa (zk (vi 0) (ze (qp ?_)));replace e:=z02 b e;replace d:=z02 e d;replace t:=z02 d t;obtain rfl:=Option.some.inj t
 refine qm (D:=[]) (J:=[box ak [W,Z] 115,aB,K,aA]) (rs:=[.tmp 10,.tmp 11]) (vs:=[aa,(vi 0)]) ((((x.trans H).trans y).trans m).trans aG) rfl rfl ⟨rfl,rfl,trivial⟩ ?_;exact⟨rfl,⟨aa,rfl,aS⟩⟩
 refine qi (zq (zh (vi inputs) (zh (vi 0) (ze (qj (jf (γ:=Nat×Int×(List ((List UInt8)×Bool))×(List Sa)×Frag×Value×Frag) (rs [15,16,18,21,52,81]) (fun g=>[(15,g.2.2.2.2.2.1),(52,(vi g.2.1))]) (fun g=>[g.2.2.2.2.1,g.2.2.2.2.2.2,box ak [W,Z] 115,K]++A) (fun g R=>mf N inputs key next x23 x62 g.1 g.2.1 g.2.2.1 g.2.2.2.1=some aC∧MRep z3k Value.bool R g.2.2.2.2.1 v6 g.2.2.1∧ORep (w9 false false) R g.2.2.2.2.2.2 g.2.2.2.2.2.1 g.2.2.2.1∧True) (fun g=>g.1) (N,0,az,ay,aB,aO,aA) ⟨[],(pk 1 rfl (pk 2 rfl (pk 0 rfl (pk 0 rfl (List.Perm.refl _)))))⟩ ⟨b,(aQ.mono m),(aP.mono m),trivial⟩ ?_))))))
 clear b;rintro⟨O,c,P,I,an,ab,ao⟩ bW bX z ⟨b,Q,ac,_⟩;rcases O with _|O;exact j5 b;replace b:mf N inputs key next x23 x62 (O+1) c P I=some aC:=b;rw [mf] at b;refine zq (zx (jg rfl rfl) (ze (qc (zy rfl b (fun b=>?_) (fun b=>?_)))))
 refine qi ?_;obtain⟨S,l,b⟩:=zu b
 refine qz (γ:=(List ((List UInt8)×Bool)×List Sa)×Frag×Value×Frag) (rs [15,16,18,21,54,80]) (fun g=>[(15,g.2.2.1)]) (fun g=>[g.2.1,g.2.2.2,box ak [W,Z] 115,K]++A) (fun g R=>S=g.1∧MRep z3k Value.bool R g.2.1 v6 g.1.1∧ORep (w9 false false) R g.2.2.2 g.2.2.1 g.1.2∧True) ?_ ?_
 refine qj (zq (zh (vi c) (zk (vi c) (jb (zh p (zx (ko zui rfl) (zx (ku (i:=2) q99 rfl rfl rfl) (zh (vi c) ?_))))))));obtain⟨ap,aT,l⟩:=zu l
 refine z5e rfl rfl rfl ((ag.mono ((((x.trans H).trans y).trans m).trans z)) _ (RH.le.refl _) ((ix x23 x62).fJ) c _ _ _ (aE.mono (m.trans z)) (ql.2 rfl) aT) fun o bY h ad=>?_;refine zk o (jb (zh s (zh o ?_)));obtain⟨E,aU,l⟩:=zu l
 refine z5e rfl rfl rfl ((U.mono (((((x.trans H).trans y).trans m).trans z).trans h)) _ (RH.le.refl _) ap _ _ ad aU) fun bZ b0 f aV=>?_;obtain rfl:=z9o.1 aV
 refine zk (z3k E) (jb (zh v6 (zh (z3k E) (zx (zgt (k:=E) underlying113 ko9 mz4 (zp4 (i:=0) rfl (Q.mono (h.trans f))) rfl rfl) (zx (fo rfl) (ze (zy rfl l (fun l=>?_) (fun l=>?_))))))))
 refine zq (zh v6 (zh (z3k E) (zdr (i:=0) (k:=E) (u:=true) underlying113 ko9 rfl (Q.mono (h.trans f)) rfl rfl rfl fun aW aX=>?_)));refine ze (q8 (zh ab (zh o (zx (ko zv6 rfl) (zx (ku (i:=2) zy1 rfl rfl rfl) ?_)))));obtain⟨aq,aY,l⟩:=zu l
 refine jh rfl zth rfl (z2z (aF.mono (((m.trans z).trans h).trans f)) aY) fun b1 b2 C aZ=>?_;refine zh (vi c) (dh (T:=(zz .i64)) (X:=([c]:List Int)) (ps:=[(0,(vi c))]) (css:=[[(vi c)]]) rfl underlying30 zo3 rfl rfl (kw ⟨rfl,trivial⟩) rfl rfl (by decide) fun a0 b3 al a1=>?_)
 refine wh (i:=0) rfl a1 fun a2 n a3=>?_;have a4:VRep (tSl true (zz .i64)) a2 a0 ([c]:List Int):=(z4e a3 al);obtain⟨ae,l⟩:=zg l;refine zkr rfl underlying30 zo3 rfl rfl (aZ.mono n) (jo (Sub.v (B:=(tSl false (zz .i64))) (um Sub.refl (fun _=>rfl)) a4)) ae.1.1 ae.1.2 ae.2 fun F b4 ar=>?_
 refine zx (za0 [(0,(.agg #[o])),(1,(.agg #[F]))] (ps:=[(0,o),(1,F)]) (v:=(.agg #[o,F])) rfl (by simp only [List.map_cons,List.map_nil,z4c (ad.mono ((f.trans C).trans n)),z6b ar];rfl) (fun w=>by kernel_rfl)) (wh (i:=0) rfl ar fun a5 G a6=>?_)
 have a7:VRep (tSl false (zz .i64)) a5 F (aq++([c]:List Int)):=(z6x a6);let G1:=([(⟨ap,(aq++([c]:List Int))⟩:Sa)]:List Sa)
 refine dh (T:=(w9 false false)) (X:=G1) (ps:=[(0,(.agg #[o,F]))]) (css:=[[o,F]]) rfl underlying116 zzf rfl rfl (kw ⟨⟨_,_,rfl,(kg rfl (ad.mono (((f.trans C).trans n).trans G))),(kg rfl a7)⟩,trivial⟩) rfl rfl (by decide) fun a8 b5 am a9=>?_
 refine wh (i:=0) rfl a9 fun ba L bb=>?_;have bc:VRep (tSl true (w9 false false)) ba a8 G1:=(z4e bb am);obtain⟨au,l⟩:=zg l
 refine di (i:=1) (X:=I) (Y:=G1) rfl underlying116 zzf rfl rfl rfl (ac.mono (((((h.trans f).trans C).trans n).trans G).trans L)) (jo (Sub.v (B:=(tSl false (w9 false false))) (um Sub.refl (fun _=>rfl)) bc)) au.1 au.2 fun av be bf=>?_;refine zk av (ze ?_)
 exact⟨dkt,(((((h.trans f).trans C).trans n).trans G).trans L),ji,(((z8a P E true),(I++G1)),aW,av,be),⟨rfl,trivial⟩,prm,(Option.some.inj l).symm,(aX.mono (((C.trans n).trans G).trans L)),bf,trivial⟩;refine qi ?_
 exact⟨dkt,(h.trans f),ji,((P,I),an,ab,ao),⟨rfl,trivial⟩,prm,(Option.some.inj l).symm,(Q.mono (h.trans f)),(ac.mono (h.trans f)),trivial⟩;rintro⟨S,bg,bh,bi⟩ b6 b7 aH ⟨rfl,bj,bk,_⟩;refine q8 ?_;obtain⟨bl,b⟩:=zg b;refine zx (ja rfl rfl bl) (zh (vi (c+1)) (ze ?_))
 exact⟨dkt,aH,ji,(O,c+1,S.1,S.2,bg,bh,bi),Nat.lt_succ_self _,⟨rfl,rfl,trivial⟩,prm,b,bj,bk,trivial⟩;refine jk ?_;exact⟨dkt,(m.trans z),ji,((P,I),an,ab,ao),⟨rfl,trivial⟩,⟨[box ak [W,Z] 115],(pk 2 rfl (pk 0 rfl (pk 0 rfl (pk 0 rfl (List.Perm.refl _)))))⟩,(Option.some.inj b).symm,Q,ac,trivial⟩
 rintro⟨bm,bF,bG,bH⟩ b8 cq bn ⟨rfl,bI,bJ,_⟩;replace e:=z1c e;refine q8 ?_;obtain⟨bo,e⟩:=zg e;refine zx (ja rfl rfl bo) (zh (vi (x62+1)) (ze ?_))
 exact⟨dkt,bn,ji,(aj,bm.2,x62+1,bm.1,bG,bH,bF),Nat.lt_succ_self _,⟨rfl,rfl,trivial⟩,⟨[],(pk 0 rfl (pk 1 rfl (pk 0 rfl (List.Perm.refl _))))⟩,e,bJ,bI,trivial⟩;refine jk ?_;exact⟨dkt,y,ji,((ay,az),aO,aA,aB),⟨rfl,trivial⟩,⟨[K],(pk 1 rfl (pk 0 rfl (pk 0 rfl (List.Perm.refl _))))⟩,(Option.some.inj e).symm,aP,aQ,trivial⟩
 rintro⟨bp,aI,bK,bL⟩ b9 cr bq ⟨rfl,bM,bN,_⟩;replace d:=z1c d;refine q8 (zh aI (zk aI (ze (q8 (zh (vi V) ?_)))));obtain⟨br,d⟩:=zg d;refine zx (ja rfl rfl br) (zk (vi (V+1)) (ze ?_))
 exact⟨dkt,bq,ji,(ah,bp.1,V+1,bp.2,aI,bK,bL),Nat.lt_succ_self _,⟨rfl,rfl,trivial⟩,prm,d,bM,bN,trivial⟩;refine jk ?_;exact⟨dkt,H,ji,(),trivial,⟨[aN,K],(List.Perm.refl _)⟩,(Option.some.inj d).symm,trivial⟩;rintro cs ca ct bs ⟨rfl,_⟩;replace t:=z1c t
 refine zq (zk vs0 (zk (vi 7) (ze (qp ?_))));obtain rfl:=Option.some.inj t;refine qm (D:=[]) (J:=[]) (rs:=[.tmp 10,.tmp 11]) (vs:=[vs0,(vi 7)]) (x.trans bs) rfl rfl ⟨rfl,rfl,trivial⟩ ?_;exact⟨rfl,⟨vs0,rfl,z3j⟩⟩
end GV
end Go.Proofs.YtjmlpkkbmnjhcaaGreat
