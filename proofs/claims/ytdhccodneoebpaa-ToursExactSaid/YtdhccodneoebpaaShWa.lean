import Derived.Test.YtdhccodneoebpaaShPlain
import Derived.Test.YtdhccodneoebpaaRows
set_option linter.unusedVariables false
set_option linter.unusedSimpArgs false
set_option linter.unusedSectionVars false
namespace Go.Proofs.Ytdhccodneoebpaa
namespace GV
open _root_.Go.Proofs.Try
open Go.IntWalk
set_option maxRecDepth 100000
set_option maxHeartbeats 20000000
theorem zid: ∀ w,∃ z,(zeroValue 27).run prog w= .ok z w∧z.cells=([.int .i64 0,.int .i64 0,.slice none 0 0]:List Value).toArray:=fun w=>⟨(.agg #[(vi 0),(vi 0),vs0]),by kernel_rfl,rfl⟩
theorem z5h: ∀ w,(sizeOf 27).run prog w= .ok 3 w:=fun w=>by kernel_rfl
theorem z3l:FieldOk prog 27 0 0:=by
 obtain⟨i,hi,a⟩: ∃ i,prog.info? 3=some i∧i.size=1:=jr (by kernel_rfl);exact vg underlying27 rfl rfl hi (by rw [a];rfl)
theorem ag3: ∀ w,(isAgg 3).run prog w= .ok false w:=fun w=>by kernel_rfl
theorem ty4:TyOk prog 4 x9:=by
 obtain⟨i,hi,a⟩: ∃ i,prog.info? 4=some i∧i.size=1:=jr (by kernel_rfl);exact rz underlying4 hi rfl a
theorem zj1:ZeroOk prog 53 kEdge (⟨(0:Int),(0:Int)⟩:Edge) 16:=by
 obtain⟨i,zv,hi,a,c,d,f⟩:=z11 (P:=prog) (e:=53) (zv:=(.agg #[(vi 0),(vi 0)])) (k:=2) (b:=16) (by kernel_rfl);exact⟨i,zv,hi,a,c,d,fun R=>by subst f;exact⟨_,_,rfl,rfl,rfl⟩⟩
theorem zlm:FieldOk prog 27 1 1:=by
 obtain⟨i,hi,a⟩: ∃ i,prog.info? 3=some i∧i.size=1:=jr (by kernel_rfl);exact vg underlying27 rfl rfl hi (by rw [a];rfl)
theorem mixed:prog.follows .mixedOrders=true:=by kernel_rfl
theorem pg:FieldOk prog 27 2 2:=by
 obtain⟨i,hi,a⟩: ∃ i,prog.info? 25=some i∧i.size=1:=jr (by kernel_rfl);exact vg underlying27 rfl rfl hi (by rw [a];rfl)
theorem zok{a:Bool}:ZeroOk prog 54 (tSl a kEdge) ([]:List Edge) 24:=by
 obtain⟨i,zv,hi,c,d,f,g⟩:=z11 (P:=prog) (e:=54) (zv:=vs0) (k:=1) (b:=24) (by kernel_rfl);exact⟨i,zv,hi,c,d,f,fun R=>by subst g;exact(u7 rfl l8)⟩
theorem zba: ∀ w,(isAgg 27).run prog w= .ok true w:=fun w=>by kernel_rfl
theorem z0z{a b:Bool}:TyOk prog 27 (jf a b):=by
 obtain⟨i,hi,c⟩: ∃ i,prog.info? 27=some i∧i.size=3:=jr (by kernel_rfl);exact rz underlying27 hi rfl c
theorem z3k{a b:Bool}:TyOk prog 25 (tSl a (tSl b kEdge)):=by
 obtain⟨i,hi,c⟩: ∃ i,prog.info? 25=some i∧i.size=1:=jr (by kernel_rfl);exact rz underlying25 hi rfl c
theorem zp1{a:Bool}:ZeroOk prog 36 (tSl a (zz .i64)) ([]:List Int) 24:=by
 obtain⟨i,zv,hi,c,d,f,g⟩:=z11 (P:=prog) (e:=36) (zv:=vs0) (k:=1) (b:=24) (by kernel_rfl);exact⟨i,zv,hi,c,d,f,fun R=>by subst g;exact(u7 rfl l8)⟩
theorem zo4:ZeroOk prog 4 x9 false 1:=by
 obtain⟨i,zv,hi,a,c,d,f⟩:=z11 (P:=prog) (e:=4) (zv:=(.bool false)) (k:=1) (b:=1) (by kernel_rfl);exact⟨i,zv,hi,a,c,d,fun R=>by subst f;exact rfl⟩
theorem zo3:ZeroOk prog 3 (zz .i64) (0:Int) 8:=by
 obtain⟨i,zv,hi,a,c,d,f⟩:=z11 (P:=prog) (e:=3) (zv:=(vi 0)) (k:=1) (b:=8) (by kernel_rfl);exact⟨i,zv,hi,a,c,d,fun R=>by subst f;exact rfl⟩
theorem zst: ∀ w,∃ z,(zeroValue 53).run prog w= .ok z w∧z.cells=([.int .i64 0,.int .i64 0]:List Value).toArray:=fun w=>⟨(.agg #[(vi 0),(vi 0)]),by kernel_rfl,rfl⟩
theorem zgr: ∀ w,(sizeOf 53).run prog w= .ok 2 w:=fun w=>by kernel_rfl
theorem zgo{a:Bool}:TyOk prog 54 (tSl a kEdge):=by
 obtain⟨i,hi,b⟩: ∃ i,prog.info? 54=some i∧i.size=1:=jr (by kernel_rfl);exact rz underlying54 hi rfl b
theorem zic{a:Bool}:SlOk prog 25 54 (tSl a kEdge):=⟨underlying25,zgo⟩
theorem zmp:TyOk prog 53 kEdge:=by
 obtain⟨i,hi,a⟩: ∃ i,prog.info? 53=some i∧i.size=2:=jr (by kernel_rfl);exact rz underlying53 hi rfl a
theorem zj7:SlOk prog 54 53 kEdge:=⟨underlying54,zmp⟩
theorem zx8: ∀ w,(isAgg 53).run prog w= .ok true w:=fun w=>by kernel_rfl
theorem ty3:TyOk prog 3 (zz .i64):=by
 obtain⟨i,hi,a⟩: ∃ i,prog.info? 3=some i∧i.size=1:=jr (by kernel_rfl);exact rz underlying3 hi rfl a
theorem bu:SlOk prog 36 3 (zz .i64):=⟨underlying36,ty3⟩
theorem z7k:SlOk prog 88 4 x9:=⟨underlying88,ty4⟩
theorem z7l{a:Bool}:TyOk prog 36 (tSl a (zz .i64)):=by
 obtain⟨i,hi,b⟩: ∃ i,prog.info? 36=some i∧i.size=1:=jr (by kernel_rfl);exact rz underlying36 hi rfl b
theorem z7i{a:Bool}:SlOk prog 30 36 (tSl a (zz .i64)):=⟨underlying30,z7l⟩
theorem z7j:FieldOk prog 53 0 0:=by
 obtain⟨i,hi,a⟩: ∃ i,prog.info? 3=some i∧i.size=1:=jr (by kernel_rfl);exact vg underlying53 rfl rfl hi (by rw [a];rfl)
theorem zp5:FieldOk prog 53 1 1:=by
 obtain⟨i,hi,a⟩: ∃ i,prog.info? 3=some i∧i.size=1:=jr (by kernel_rfl);exact vg underlying53 rfl rfl hi (by rw [a];rfl)
theorem z7w{N:Nat}{R:RH}{s:(List Edge)}{c:Value}(k:VRep (tSl false kEdge) R c s){f:Edge→Option Bool}{e:Value}(n:FOk1 prog R e kEdge x9 f){r:Int}(b:og N s f=some r):CallP prog 88 #[c,e] R (fun v R'=>v=(vi r)):=by
 refine qo (args:=[c,e]) func88 rfl rfl fun A=>?_;rw [og] at b;refine zt (zn (vi 0) (z8 ?_));obtain⟨o,a,b⟩:=zu b;refine jb (γ:=Unit) (rs [4,19]) (fun g=>[]) (fun g=>[]++A) (fun g R=>o=Ex.go g∧True) ?_ ?_
 refine zt (zl c (zi (qz rfl underlying54 rfl (jd k)) (zl (vi 0) (z8 (q9 (kv (γ:=Nat×Int) (rs [4,6,8,19]) (fun g=>[(8,(vi g.2))]) (fun g=>[]++A) (fun g R=>um N s f g.1 g.2=some o∧True) (fun g=>g.1) (N,0) prm ⟨a,trivial⟩ ?_))))));clear a;rintro⟨m,d⟩ y H h ⟨a,_⟩
 rcases m with _|m;exact qy a;replace a:um N s f (m+1) d=some o:=a;rw [um] at a;refine zt (zi (jh rfl rfl) (z8 (zy (qa rfl a (fun a=>?_) (fun a=>?_)))))
 refine qc (zy (q9 (zt (zl (vi d) (zn (vi d) (j5 (zl e (zl c (zl (vi d) ?_)))))))));obtain⟨l,a⟩:=ze a;refine yj (i:=d.toNat) rfl zj7 rfl (jd (k.mono h)) (zb rfl l.1) (zm l) fun z p=>?_;refine j4 rfl zmp rfl p fun B q=>?_;obtain rfl:=z2e.1 q
 obtain⟨C,t,a⟩:=zu a;refine zwl rfl rfl rfl ((n.mono h) _ (RH.le.refl _) (ix s d) _ _ (z2e.2 rfl) t) fun E F j u=>?_;obtain rfl:=yl.1 u;refine z8 (qa rfl a (fun a=>?_) (fun a=>?_));refine zt (zl (vi d) (zn (vi d) (z8 (qw ?_))));replace b:=z2h a b;obtain rfl:=Option.some.inj b
 refine qg (D:=[]) (J:=[]) (rs:=[.tmp 4]) (vs:=[(vi d)]) (h.trans j) rfl rfl ⟨rfl,trivial⟩ ?_;exact⟨rfl,rfl⟩;refine qc (zq ?_);obtain⟨w,a⟩:=ze a;refine zi (jg rfl rfl w) (zl (vi (d+1)) (z8 ?_));exact⟨dkt,j,jm,(m,d+1),Nat.lt_succ_self _,⟨rfl,trivial⟩,prm,a,trivial⟩;refine jk ?_
 exact⟨dkt,h,jm,(),trivial,prm,(Option.some.inj a).symm,trivial⟩;rintro I G K x ⟨rfl,_⟩;replace b:=z10 b;refine zt (zn (vi (-1)) (z8 (qw ?_)));obtain rfl:=Option.some.inj b;refine qg (D:=[]) (J:=[]) (rs:=[.tmp 4]) (vs:=[(vi (-1))]) x rfl rfl ⟨rfl,trivial⟩ ?_;exact⟨rfl,rfl⟩
theorem q2p:Enters prog 88:=enters_of func88 rfl (by kernel_rfl)
theorem z6e{N:Nat}{R:RH}{s:(List Edge)}{a:Value}(d:VRep (tSl false kEdge) R a s){f:Edge→Option Bool}{b:Value}(e:FOk1 prog R b kEdge x9 f){r:Bool}(c:dz N s f=some r):CallP prog 82 #[a,b] R (fun v R'=>v=(.bool r)):=by
 refine qo (args:=[a,b]) func82 rfl rfl fun A=>?_;rw [dz] at c;refine zt (zn (.bool false) (j5 (zl a (zl b ?_))));obtain⟨h,i,c⟩:=zu c;refine jl rfl q2p rfl (z7w d e i) fun k l g j=>?_;obtain rfl:=j
 refine zi (z6p rfl rfl) (zn (.bool (decide (0≤h))) (z8 (qw ?_)));obtain rfl:=Option.some.inj c;refine qg (D:=[]) (J:=[]) (rs:=[.tmp 4]) (vs:=[(.bool (decide (0≤h)))]) g rfl rfl ⟨rfl,trivial⟩ ?_;exact⟨rfl,rfl⟩
theorem q35:Enters prog 82:=enters_of func82 rfl (by kernel_rfl)
theorem zgq{N:Nat}{R:RH}  {r:Edge} (a:z9n N  =some r):CallP prog 89 #[] R (fun v R'=>v=(z2r r)):=by
 refine qo (args:=[]) func89 rfl rfl fun A=>?_;rw [z9n] at a;refine zt (jc rfl zst fun b=>?_)
 refine j5 (zi (kw (ps:=[(0,(vi (-1))),(1,(vi (-1)))]) (v:=(.agg #[(vi (-1)),(vi (-1))])) rfl (fun w=>by kernel_rfl)) (qm (i:=0) (vs:=[(vi (-1)),(vi (-1))]) zgr rfl rfl rfl rfl rfl rfl (qb rfl (qb rfl j3)) ?_));refine z8 (qw ?_);obtain rfl:=Option.some.inj a
 refine qg (D:=[]) (J:=[box b [(vi (-1)),(vi (-1))] 53]) (rs:=[.cell 0 53]) (vs:=[(.agg #[(vi (-1)),(vi (-1))])]) (RH.le.refl _) rfl rfl ⟨⟨_,rfl,fun w c=>z4b (i:=0) c rfl rfl zx8 zgr rfl rfl⟩,trivial⟩ ?_;exact⟨rfl,rfl⟩
theorem q2q:Enters prog 89:=enters_of func89 rfl (by kernel_rfl)
theorem q2v:zo9 prog 53:=zlg (f0:=((prog.fieldsOf 53).toList.getD 0 default)) (f1:=((prog.fieldsOf 53).toList.getD 1 default)) (by kernel_rfl) (by kernel_rfl) (by kernel_rfl) (by kernel_rfl) (by kernel_rfl) (by kernel_rfl) (by kernel_rfl) (by kernel_rfl) (by kernel_rfl) (by kernel_rfl)
theorem zgs{N:Nat}{R:RH}{m:Mach}{p:Value}(w:VRep (jf false false) R p m){x:Edge}{r:Bool}(n:z9p N m x=some r):CallP prog 84 #[p,(z2r x)] R (fun v R'=>v=(.bool r)):=by
 refine qo (args:=[p,(z2r x)]) func84 rfl rfl fun A=>?_;rw [z9p] at n;refine zt (vo (T:=(jf false false)) rfl rfl rfl w fun v1 R3 y h5 K=>?_);refine z7s (T:=kEdge) rfl rfl (z2e.2 rfl) fun v6 R8 q t=>?_;refine zn (.bool false) (z8 (zy ?_));obtain⟨b,z,n⟩:=zu n
 let B:=((decide (x.to=b.to∧x.out=b.out))||((((decide (0≤x.to))&&(decide (x.to<(↑m.rows.length:Int))))&&(decide (0≤x.out)))&&(decide (x.out<m.outputs))));let L:=((((decide (0≤x.to))&&(decide (x.to<(↑m.rows.length:Int))))&&(decide (0≤x.out)))&&(decide (x.out<m.outputs)))
 let o:=(((decide (0≤x.to))&&(decide (x.to<(↑m.rows.length:Int))))&&(decide (0≤x.out)));let k:=((decide (0≤x.to))&&(decide (x.to<(↑m.rows.length:Int))));let e:=(true&&((decide (x.to=b.to∧x.out=b.out))==false))
 refine mh 29 [] [phX (z2r x),phX (z2r b),phX (.bool (decide (x.to=b.to∧x.out=b.out))),phX (.bool (decide (x.to=b.to∧x.out=b.out))),phG e (phP (zz .i64) x.to),phG e (phX (vi x.to)),phG e (phX (.bool (decide (0≤x.to)))),phG e (phX (.bool (decide (0≤x.to)))),phG (e&&((decide (0≤x.to))==true)) (phP (zz .i64) x.to),phG (e&&((decide (0≤x.to))==true)) (phX (vi x.to)),phG (e&&((decide (0≤x.to))==true)) (phP (tSl false (tSl false kEdge)) m.rows),phG (e&&((decide (0≤x.to))==true)) (phR (tSl false (tSl false kEdge)) m.rows),phG (e&&((decide (0≤x.to))==true)) (phX (vi (↑m.rows.length:Int))),phG (e&&((decide (0≤x.to))==true)) (phX (.bool (decide (x.to<(↑m.rows.length:Int))))),phG e (phX (.bool k)),phG e (phX (.bool k)),phG (e&&(k==true)) (phP (zz .i64) x.out),phG (e&&(k==true)) (phX (vi x.out)),phG (e&&(k==true)) (phX (.bool (decide (0≤x.out)))),phG e (phX (.bool o)),phG e (phX (.bool o)),phG (e&&(o==true)) (phP (zz .i64) x.out),phG (e&&(o==true)) (phX (vi x.out)),phG (e&&(o==true)) (phP (zz .i64) m.outputs),phG (e&&(o==true)) (phX (vi m.outputs)),phG (e&&(o==true)) (phX (.bool (decide (x.out<m.outputs)))),phG e (phX (.bool L)),phX (.bool B),phX (.bool B)] mixed (by kernel_rfl) (pq ⟨zo,zo,zo,zo,(qp dw),(qp zo),(qp zo),(qp zo),(qp dw),(qp zo),(qp dw),(qp o5),(qp zo),(qp zo),(qp zo),(qp zo),(qp dw),(qp zo),(qp zo),(qp zo),(qp zo),(qp dw),(qp zo),(qp dw),(qp zo),(qp zo),(qp zo),zo,zo,trivial⟩) ⟨?_,?_,?_,?_,?_,?_,?_,?_,?_,?_,?_,?_,?_,?_,?_,?_,?_,?_,?_,?_,?_,?_,?_,?_,?_,?_,?_,?_,?_,trivial⟩ fun ai u=>?_
 intro l aj a g hd;exact za rfl rfl rfl (uf (ul zmp (g 3 rfl) (t.mono a)) (fun _ _ h=>z2e.1 h));intro l al a g hd;exact za rfl rfl rfl (vk (vs:=[]) q2q rfl (zgq  z) (fun _ _ h=>h));rintro l am a g ⟨c,f,_⟩;exact za rfl rfl rfl (zw (znn q2v (c rfl) (f rfl)));rintro l an a g ⟨c,f,_⟩
 exact za rfl rfl rfl (zw (zf (c rfl)));rintro l ao a g ⟨c,_⟩;exact zx (Gj:=true) (Bj:=decide (x.to=b.to∧x.out=b.out)) rfl rfl rfl (uj (c rfl)) rfl (fun i d=>tq z7j z7b (g 3 rfl) (t.mono a));rintro l ap a g ⟨c,f,_⟩
 exact zx (Gj:=true) (Bj:=decide (x.to=b.to∧x.out=b.out)) rfl rfl rfl (uj (f rfl)) rfl (fun i d=>uf (ul ty3 rfl ((c rfl).1 (zk rfl d))) (fun _ _ h=>qh.1 h));rintro l aq a g ⟨c,f,_⟩
 exact zx (Gj:=true) (Bj:=decide (x.to=b.to∧x.out=b.out)) rfl rfl rfl (uj (f rfl)) rfl (fun i d=>zw (z6p (show l 10=(vi x.to) from(c rfl).1 (zk rfl d)) rfl));rintro l ar a g ⟨c,f,j,_⟩
 exact zx (Gj:=true) (Bj:=decide (x.to=b.to∧x.out=b.out)) rfl rfl rfl (uj (f rfl)) rfl (fun i d=>zw (zf (show l 11=(.bool (decide (0≤x.to))) from(c rfl).1 (zk rfl d))));rintro l au a g ⟨c,_⟩;exact zx (Gj:=e) (Bj:=decide (0≤x.to)) rfl rfl rfl (c rfl) rfl (fun i d=>tq z7j z7b (g 3 rfl) (t.mono a))
 rintro l av a g ⟨c,f,_⟩;exact zx (Gj:=e) (Bj:=decide (0≤x.to)) rfl rfl rfl (f rfl) rfl (fun i d=>uf (ul ty3 rfl ((c rfl).1 (zk i d))) (fun _ _ h=>qh.1 h));rintro l M a g ⟨c,_⟩;exact zx (Gj:=e) (Bj:=decide (0≤x.to)) rfl rfl rfl (c rfl) rfl (fun i d=>tq pg vv (g 2 rfl) ((K.mono q).mono a))
 rintro l O a g ⟨c,f,_⟩;exact zx (Gj:=e) (Bj:=decide (0≤x.to)) rfl rfl rfl (f rfl) rfl (fun i d=>ul z3k rfl ((c rfl).1 (zk i d)));rintro l P a g ⟨c,f,_⟩;exact zx (Gj:=e) (Bj:=decide (0≤x.to)) rfl rfl rfl (f rfl) rfl (fun i d=>zw (qz rfl underlying25 rfl (jd ((c rfl).1 (zk i d)))))
 rintro l Q a g ⟨c,f,j,_⟩;exact zx (Gj:=e) (Bj:=decide (0≤x.to)) rfl rfl rfl (j rfl) rfl (fun i d=>zw (jh (show l 14=(vi x.to) from(c rfl).1 (zk i d)) (show l 17=(vi (↑m.rows.length:Int)) from(f rfl).1 (zk i d))));rintro l S a g ⟨c,f,j,_⟩
 exact zx (Gj:=true) (Bj:=decide (x.to=b.to∧x.out=b.out)) rfl rfl rfl (uj (j rfl)) rfl (fun i d=>zw (y5 (show l 12=(.bool (decide (0≤x.to))) from(c rfl).1 (zk rfl d)) (fun s=>(show l 18=(.bool (decide (x.to<(↑m.rows.length:Int)))) from(f rfl).1 (zk (zk rfl d) s))) rfl));rintro l U a g ⟨c,f,j,_⟩
 exact zx (Gj:=true) (Bj:=decide (x.to=b.to∧x.out=b.out)) rfl rfl rfl (uj (j rfl)) rfl (fun i d=>zw (zf (show l 19=(.bool k) from(c rfl).1 (zk rfl d))));rintro l V a g ⟨c,_⟩
 exact zx (Gj:=e) (Bj:=(decide (0≤x.to))&&(decide (x.to<(↑m.rows.length:Int)))) rfl rfl rfl (c rfl) rfl (fun i d=>tq zp5 zo2 (g 3 rfl) (t.mono a));rintro l W a g ⟨c,f,_⟩
 exact zx (Gj:=e) (Bj:=(decide (0≤x.to))&&(decide (x.to<(↑m.rows.length:Int)))) rfl rfl rfl (f rfl) rfl (fun i d=>uf (ul ty3 rfl ((c rfl).1 (zk i d))) (fun _ _ h=>qh.1 h));rintro l X a g ⟨c,f,_⟩
 exact zx (Gj:=e) (Bj:=(decide (0≤x.to))&&(decide (x.to<(↑m.rows.length:Int)))) rfl rfl rfl (f rfl) rfl (fun i d=>zw (z6p (show l 22=(vi x.out) from(c rfl).1 (zk i d)) rfl));rintro l Y a g ⟨c,f,j,_⟩
 exact zx (Gj:=true) (Bj:=decide (x.to=b.to∧x.out=b.out)) rfl rfl rfl (uj (j rfl)) rfl (fun i d=>zw (y5 (show l 20=(.bool k) from(c rfl).1 (zk rfl d)) (fun s=>(show l 23=(.bool (decide (0≤x.out))) from(f rfl).1 (zk (zk rfl d) s))) rfl));rintro l Z a g ⟨c,f,j,_⟩
 exact zx (Gj:=true) (Bj:=decide (x.to=b.to∧x.out=b.out)) rfl rfl rfl (uj (j rfl)) rfl (fun i d=>zw (zf (show l 24=(.bool o) from(c rfl).1 (zk rfl d))));rintro l aa a g ⟨c,_⟩;exact zx (Gj:=e) (Bj:=k&&(decide (0≤x.out))) rfl rfl rfl (c rfl) rfl (fun i d=>tq zp5 zo2 (g 3 rfl) (t.mono a))
 rintro l ab a g ⟨c,f,_⟩;exact zx (Gj:=e) (Bj:=k&&(decide (0≤x.out))) rfl rfl rfl (f rfl) rfl (fun i d=>uf (ul ty3 rfl ((c rfl).1 (zk i d))) (fun _ _ h=>qh.1 h));rintro l ac a g ⟨c,_⟩
 exact zx (Gj:=e) (Bj:=k&&(decide (0≤x.out))) rfl rfl rfl (c rfl) rfl (fun i d=>tq zlm zez (g 2 rfl) ((K.mono q).mono a));rintro l ad a g ⟨c,f,_⟩;exact zx (Gj:=e) (Bj:=k&&(decide (0≤x.out))) rfl rfl rfl (f rfl) rfl (fun i d=>uf (ul ty3 rfl ((c rfl).1 (zk i d))) (fun _ _ h=>qh.1 h))
 rintro l ae a g ⟨c,f,j,_⟩;exact zx (Gj:=e) (Bj:=k&&(decide (0≤x.out))) rfl rfl rfl (j rfl) rfl (fun i d=>zw (jh (show l 27=(vi x.out) from(c rfl).1 (zk i d)) (show l 29=(vi m.outputs) from(f rfl).1 (zk i d))));rintro l af a g ⟨c,f,j,_⟩
 exact zx (Gj:=true) (Bj:=decide (x.to=b.to∧x.out=b.out)) rfl rfl rfl (uj (j rfl)) rfl (fun i d=>zw (y5 (show l 25=(.bool o) from(c rfl).1 (zk rfl d)) (fun s=>(show l 30=(.bool (decide (x.out<m.outputs))) from(f rfl).1 (zk (zk rfl d) s))) rfl));rintro l ag a g ⟨c,f,_⟩
 exact za rfl rfl rfl (zw (l7 (c rfl) rfl (fun s=>(show l 31=(.bool L) from(f rfl).1 (zk rfl s)))));rintro l ah a g ⟨c,f,j,d3,d4,d5,d6,d7,d8,d9,aw,ax,ay,az,aA,aB,aC,aD,aE,aF,aG,aH,aI,aJ,aK,aL,aM,aN,aO,aP,_⟩;exact za rfl rfl rfl (zw (ni (c rfl)))
 intro aQ C aR E aS F aT G aU aV aW aX aY aZ a0 a1 a2 a3 a4 a5 a6 a7 a8 a9 ba bb bc be bf bg bh bi bj bk bl bm bn bo bp bq br bs bt bu bv bw bx bz bA bB bC bD bE bF bG H bH I;obtain rfl:=Eq.symm C;obtain rfl:=Eq.symm E;obtain rfl:=Eq.symm F;obtain rfl:=Eq.symm G;obtain rfl:=Eq.symm H;obtain rfl:=Eq.symm I
 refine z8 (qw ?_);obtain rfl:=Option.some.inj n;refine qg (D:=[]) (J:=[]) (rs:=[.tmp 4]) (vs:=[(.bool B)]) ((y.trans q).trans u) rfl rfl ⟨rfl,trivial⟩ ?_;exact⟨rfl,rfl⟩
theorem q3y:Enters prog 84:=enters_of func84 rfl (by kernel_rfl)
theorem zde{N:Nat}{R:RH}{x:Edge}{p0_:Mach}{a:Value}(c:PRep (jf false false) R a p0_){r:Bool}(b:z6k N x p0_=some r):CallP prog 83 #[(z2r x),a] R (fun v R'=>v=(.bool r)):=by
 refine qo (args:=[(z2r x),a]) func83 rfl rfl fun A=>?_;rw [z6k] at b;refine zt (z7s (T:=kEdge) rfl rfl (z2e.2 rfl) fun n o d i=>?_);refine zn (.bool false) (j5 (j4 rfl z0z rfl (c.mono d) fun p j=>?_));refine j4 rfl zmp rfl i fun q k=>?_;obtain rfl:=z2e.1 k
 obtain⟨h,f,b⟩:=zu b;refine jl rfl q3y rfl (zgs j f) fun l m e g=>?_;obtain rfl:=g;refine zi (p9 rfl) (zn (.bool (!h)) (z8 (qw ?_)));obtain rfl:=Option.some.inj b;refine qg (D:=[]) (J:=[]) (rs:=[.tmp 3]) (vs:=[(.bool (!h))]) (d.trans e) rfl rfl ⟨rfl,trivial⟩ ?_;exact⟨rfl,rfl⟩
theorem q3v:Enters prog 83:=enters_of func83 rfl (by kernel_rfl)
theorem zfa{N:Nat}{R:RH}{m:Mach}{q:Value}(F:VRep (jf false false) R q m){r:Int}(b:z2f N m=some r):CallP prog 75 #[q] R (fun v R'=>v=(vi r)):=by
 refine qo (args:=[q]) func75 rfl rfl fun A=>?_;rw [z2f] at b;refine zt (vo (T:=(jf false false)) rfl rfl rfl F fun E R3 k h5 l=>?_);refine zn (vi 0) (z8 (zy (zt (zsy rfl (oo z3l z1d rfl l) fun v6 h7=>?_))))
 refine ji rfl (xg (kz ty3 rfl h7)) (ji rfl (z01 rfl rfl) (ji (v:=(.bool (decide (16<m.inputs)))) rfl (zf rfl) (j6 rfl rfl rfl rfl (fun c=>oo zlm zez rfl l) fun ak G=>?_)));refine j6 rfl rfl rfl rfl (fun c=>qi (xg (kz ty3 rfl (G.1 (zk rfl c))))) fun al H=>?_
 refine j6 rfl rfl rfl rfl (fun c=>qi (z01 (H.1 (zk rfl c)) rfl)) fun am I=>?_;refine ji rfl (l7 rfl rfl (fun n=>(I.1 (zk rfl n)))) (ji (v:=(.bool ((decide (16<m.inputs))||(decide (16<m.outputs))))) rfl (zf rfl) (j6 rfl rfl rfl rfl (fun c=>oo pg vv rfl l) fun an K=>?_))
 refine j6 rfl rfl rfl rfl (fun c=>kz z3k rfl (K.1 (zk rfl c))) fun ao L=>?_;refine j6 rfl rfl rfl rfl (fun c=>qi (qz rfl underlying25 rfl (jd (L.1 (zk rfl c))))) fun ap M=>?_;refine j6 rfl rfl rfl rfl (fun c=>qi (z01 (M.1 (zk rfl c)) rfl)) fun aq O=>?_
 refine ji rfl (l7 rfl rfl (fun n=>(O.1 (zk rfl n)))) (z8 (qa rfl b (fun b=>?_) (fun b=>?_)));refine zt (zn (vi 3) (z8 (qw ?_)));obtain rfl:=Option.some.inj b;refine qg (D:=[]) (J:=[]) (rs:=[.tmp 2]) (vs:=[(vi 3)]) k rfl rfl ⟨rfl,trivial⟩ ?_;exact⟨rfl,rfl⟩
 refine qc (zy (zt (zsy rfl (oo z3l z1d rfl l) fun ar P=>?_)));refine ji rfl (xg (kz ty3 rfl P)) (ji rfl (jh rfl rfl) (ji (v:=(.bool (decide (m.inputs<1)))) rfl (zf rfl) (j6 rfl rfl rfl rfl (fun c=>oo zlm zez rfl l) fun au Q=>?_)))
 refine j6 rfl rfl rfl rfl (fun c=>qi (xg (kz ty3 rfl (Q.1 (zk rfl c))))) fun av S=>?_;refine j6 rfl rfl rfl rfl (fun c=>qi (jh (S.1 (zk rfl c)) rfl)) fun aw U=>?_
 refine ji rfl (l7 rfl rfl (fun n=>(U.1 (zk rfl n)))) (ji (v:=(.bool ((decide (m.inputs<1))||(decide (m.outputs<1))))) rfl (zf rfl) (j6 rfl rfl rfl rfl (fun c=>oo pg vv rfl l) fun ax V=>?_));refine j6 rfl rfl rfl rfl (fun c=>kz z3k rfl (V.1 (zk rfl c))) fun ay W=>?_
 refine j6 rfl rfl rfl rfl (fun c=>qi (qz rfl underlying25 rfl (jd (W.1 (zk rfl c))))) fun az X=>?_;refine j6 rfl rfl rfl rfl (fun c=>qi (jh (X.1 (zk rfl c)) rfl)) fun aA Y=>?_;refine ji rfl (l7 rfl rfl (fun n=>(Y.1 (zk rfl n)))) (z8 (qa rfl b (fun b=>?_) (fun b=>?_)))
 refine zt (zn (vi 1) (z8 (qw ?_)));obtain rfl:=Option.some.inj b;refine qg (D:=[]) (J:=[]) (rs:=[.tmp 2]) (vs:=[(vi 1)]) k rfl rfl ⟨rfl,trivial⟩ ?_;exact⟨rfl,rfl⟩;refine qc ?_;obtain⟨s,a,b⟩:=zu b;refine jb (γ:=Unit) (rs [2,3,4,5,33,51]) (fun g=>[]) (fun g=>[]++A) (fun g R=>s=Ex.go g∧True) ?_ ?_
 refine zt (ku rfl pg vv rfl l fun aB Z=>?_);refine j4 rfl z3k rfl Z fun aC t=>?_
 refine zi (qz rfl underlying25 rfl (jd t)) (zl (vi 0) (z8 (q9 (kv (γ:=Nat×Int) (rs [2,3,4,5,36,51]) (fun g=>[(36,(vi g.2))]) (fun g=>[]++A) (fun g R=>nz N m g.1 g.2=some s∧True) (fun g=>g.1) (N,0) prm ⟨a,trivial⟩ ?_))));clear a;rintro⟨o,e⟩ ah aD d ⟨a,_⟩;rcases o with _|o
 exact qy a;replace a:nz N m (o+1) e=some s:=a;rw [nz] at a;refine zt (zi (jh rfl rfl) (z8 (zy (qa rfl a (fun a=>?_) (fun a=>?_)))));refine qc (zy (q9 (zt ?_)));obtain⟨u,a⟩:=ze a
 refine yj (i:=e.toNat) rfl zic rfl (jd (t.mono d)) (zb rfl u.1) (zm u) fun aE aa=>?_;refine j4 rfl zgo rfl aa fun p w=>?_;refine zn p (j5 (ji (v:=p) rfl (zf rfl) (ji rfl (qz rfl underlying54 rfl (jd w)) (zsy rfl (oo z3l z1d rfl (l.mono d)) fun aF ab=>?_))))
 refine ji rfl (xg (kz ty3 rfl ab)) (ji rfl (tu rfl rfl) (ji (v:=(.bool (decide ((↑(ix m.rows e).length:Int)≠m.inputs)))) rfl (zf rfl) (j6 rfl rfl rfl rfl (fun c=>qi (v:=p) (zf rfl)) fun aG ac=>?_)))
 refine j6 rfl rfl rfl rfl (fun c=>qi (v:=(.func (.func 83) #[] #[E])) (z1z (fs:=[]) (cs:=[E]) rfl rfl)) fun aH ad=>?_;obtain⟨ae,af,a⟩:=zu a
 refine ic rfl rfl rfl rfl (fun c=>vk (vs:=[p,(.func (.func 83) #[] #[E])]) q35 (l9 (ac.1 (zk rfl c)) (l9 (ad.1 (zk rfl c)) rfl)) ((by have ag:=(sj af (zk rfl c));exact z6e w (zyh (cs:=[E]) q3v fun R1 hq z0 u0 y k0 hy=>by obtain rfl:=z2e.1 k0;exact CallP.mono (zde ((l.mono d).mono hq) hy) fun v R2 _ hv=>yl.2 hv) ag)) (fun _ _ h=>h)) fun x z f j=>?_
 replace j:phG (true&&((decide ((↑(ix m.rows e).length:Int)≠m.inputs))==false)) (phX (.bool (ae.getD default))) x z:=j;refine ji rfl (l7 rfl rfl (fun n=>(j.1 (zk rfl n)))) (z8 (qa rfl a (fun a=>?_) (fun a=>?_)));refine zt (zn (vi 1) (z8 (qw ?_)));replace b:=z2h a b;obtain rfl:=Option.some.inj b
 refine qg (D:=[]) (J:=[]) (rs:=[.tmp 2]) (vs:=[(vi 1)]) ((k.trans d).trans f) rfl rfl ⟨rfl,trivial⟩ ?_;exact⟨rfl,rfl⟩;refine qc (zq ?_);obtain⟨B,a⟩:=ze a;refine zi (jg rfl rfl B) (zl (vi (e+1)) (z8 ?_));exact⟨dkt,f,jm,(o,e+1),Nat.lt_succ_self _,⟨rfl,trivial⟩,prm,a,trivial⟩
 refine jk ?_;exact⟨dkt,d,jm,(),trivial,prm,(Option.some.inj a).symm,trivial⟩;rintro aM ai aN C ⟨rfl,_⟩;replace b:=z10 b;refine zt (zn (vi 0) (z8 (qw ?_)));obtain rfl:=Option.some.inj b;refine qg (D:=[]) (J:=[]) (rs:=[.tmp 2]) (vs:=[(vi 0)]) (k.trans C) rfl rfl ⟨rfl,trivial⟩ ?_;exact⟨rfl,rfl⟩
theorem q45:Enters prog 75:=enters_of func75 rfl (by kernel_rfl)
theorem zy3: ∀ w,∃ z,(zeroValue 88).run prog w= .ok z w∧z.cells=([.slice none 0 0]:List Value).toArray:=fun w=>⟨vs0,by kernel_rfl,rfl⟩
theorem zy1: ∀ w,(sizeOf 88).run prog w= .ok 1 w:=fun w=>by kernel_rfl
theorem q1x: ∀ w,∃ z,(zeroValue 124).run prog w= .ok z w∧z.cells=([.nilFunc]:List Value).toArray:=fun w=>⟨.nilFunc,by kernel_rfl,rfl⟩
theorem q1d: ∀ w,(sizeOf 124).run prog w= .ok 1 w:=fun w=>by kernel_rfl
theorem zyz: ∀ w,(isAgg 124).run prog w= .ok false w:=fun w=>by kernel_rfl
theorem zec: ∀ w,(isAgg 88).run prog w= .ok false w:=fun w=>by kernel_rfl
theorem q1c:Enters prog 76:=enters_of func76 rfl (by kernel_rfl)
theorem z8u{N:Nat}(F:Nat): ∀ {R:RH} {s:Int} {a:Nat} {p0_:List Bool} {e:Value} {fAg:Frag} (f:ORep x9 R fAg e p0_) {p1_:Mach} {d:Value} (k:PRep (jf false false) R d p1_) {b:Nat} {r:List Bool} (c:yz N F s p0_ p1_=some r),CallG prog 76 #[(vi s),(.pointer (some ⟨a,0,none⟩)),d,(.pointer (some ⟨b,0,none⟩))] R [box a [e] 88,fAg,box b [.func (.func 76) #[] #[(.pointer (some ⟨a,0,none⟩)),d,(.pointer (some ⟨b,0,none⟩))]] 124] (fun v R' O'=> ∃ l m,v= .tuple #[]∧O'=[box a [l] 88,m,box b [.func (.func 76) #[] #[(.pointer (some ⟨a,0,none⟩)),d,(.pointer (some ⟨b,0,none⟩))]] 124]∧ORep x9 R' m l r):=by
  induction F with
  |zero=>intros;rename_i c;exact qy c
  |succ F ih=>
    intro R s a p0_ e fAg f p1_ d k b r c
    refine ai (args:=[(vi s),(.pointer (some ⟨a,0,none⟩)),d,(.pointer (some ⟨b,0,none⟩))]) func76 rfl rfl fun A=>?_
    rw [yz] at c
    refine zy ?_
    refine zy ?_
    refine zq ?_
    refine ji (v:=(vi s)) rfl (zf rfl) ?_
    refine ji rfl (xe rfl rfl) ?_
    refine ji (v:=(.bool (decide (s=(-1))))) rfl (zf rfl) ?_
    refine j6 rfl rfl rfl rfl (fun o=>qi (v:=e) (zg (i:=0) zec rfl rfl rfl)) fun v7 h8=>?_
    refine j6 rfl rfl rfl rfl (fun o=>qi (v:=(vi s)) (zf rfl)) fun v9 G=>?_
    obtain⟨q,c⟩:=ze c
    refine j6 rfl rfl rfl rfl (fun o=>lg (i:=s.toNat) z7k (h8.1 (zk rfl o)) f (zb (G.1 (zk rfl o)) (q (zk rfl o)).1) (zm (q (zk rfl o)))) fun ae H=>?_
    refine j6 rfl rfl rfl rfl (fun o=>qi (zll (z7h (i:=s.toNat) (j:=1) ty4 f rfl rfl (H.1 (zk rfl o)) (zm (q (zk rfl o)))))) fun af I=>?_
    refine ji rfl (l7 rfl rfl (fun hb=>(I.1 (zk rfl hb)))) ?_
    refine z8 ?_
    refine qa rfl c (fun c=>?_) (fun c=>?_)
    · refine qw ?_
      obtain rfl:=Option.some.inj c
      refine om (D:=[]) (J:=[]) (O':=[box a [e] 88,fAg,box b [(.func (.func 76) #[] #[(.pointer (some ⟨a,0,none⟩)),d,(.pointer (some ⟨b,0,none⟩))])] 124]) (rs:=[]) (vs:=[]) (RH.le.refl _) ((pk 0 rfl (pk 0 rfl (pk 0 rfl (List.Perm.refl _))))) rfl trivial ?_
      exact⟨e,fAg,rfl,rfl,f⟩
    · refine qc ?_
      refine zy ?_
      refine zq ?_
      refine zi (zg (i:=0) zec rfl rfl rfl) ?_
      refine zl (vi s) ?_
      obtain⟨t,c⟩:=ze c
      refine kg (i:=s.toNat) rfl z7k rfl f (zb rfl t.1) (zm t) fun ah K=>?_
      refine gm (i:=s.toNat) (j:=1) ty4 f rfl rfl K (zm t) rfl (yl.2 rfl) fun L M=>?_
      refine z8 ?_
      refine zy ?_
      refine zq ?_
      refine ku rfl pg vv rfl k fun aj O=>?_
      refine j4 rfl z3k rfl O fun ak P=>?_
      refine zl (vi s) ?_
      obtain⟨x,c⟩:=ze c
      refine yj (i:=s.toNat) rfl zic rfl (jd P) (zb rfl x.1) (zm x) fun al Q=>?_
      refine j4 rfl zgo rfl Q fun am y=>?_
      refine zi (qz rfl underlying54 rfl (jd y)) ?_
      refine zl (vi 0) ?_
      refine z8 ?_
      refine q9 ?_
      refine kv (γ:=Nat×Int×(List Bool)×Value×Frag) (rs [6,7,24,33]) (fun g=>[(24,(vi g.2.1))]) (fun g=>[box b [(.func (.func 76) #[] #[(.pointer (some ⟨a,0,none⟩)),d,(.pointer (some ⟨b,0,none⟩))])] 124,box a [g.2.2.2.1] 88,g.2.2.2.2]++A) (fun g R=>xz N (yz N F) s p1_ g.1 g.2.1 g.2.2.1=some r∧ORep x9 R g.2.2.2.2 g.2.2.2.1 g.2.2.1∧True) (fun g=>g.1) (N,0,(up p0_ s true),e,L) ⟨[],(pk 2 rfl (pk 0 rfl (pk 0 rfl (List.Perm.refl _))))⟩ ⟨c,M,trivial⟩ ?_
      clear c
      rintro⟨p,h,S,u,w⟩ an ao n ⟨c,z,_⟩
      rcases p with _|p
      · exact qy c
      replace c:xz N (yz N F) s p1_ (p+1) h S=some r:=c;rw [xz] at c
      refine zy ?_
      refine zq ?_
      refine zi (jh rfl rfl) ?_
      refine z8 ?_
      refine zy ?_
      refine qa rfl c (fun c=>?_) (fun c=>?_)
      · refine qc ?_
        refine zy ?_
        refine q9 ?_
        refine zy ?_
        refine zq ?_
        obtain⟨B,c⟩:=ze c
        refine yj (i:=h.toNat) rfl zj7 rfl (jd (y.mono n)) (zb rfl B.1) (zm B) fun ap T=>?_
        refine j4 rfl zmp rfl T fun aq U=>?_
        obtain rfl:=z2e.1 U
        refine jc rfl zst fun C=>?_
        refine qm (i:=0) (vs:=[(vi ((ix (ix p1_.rows s) h).to)),(vi ((ix (ix p1_.rows s) h).out))]) zgr rfl rfl rfl rfl rfl rfl (qb rfl (qb rfl j3)) ?_
        refine z8 ?_
        refine zq ?_
        refine zi (zg (i:=1) zyz rfl rfl rfl) ?_
        refine zi (qd z7j rfl) ?_
        refine zi (zg (i:=0) ag3 rfl rfl rfl) ?_
        obtain⟨V,W,c⟩:=zu c
        refine fe (Oc:=[box a [u] 88,w,box b [(.func (.func 76) #[] #[(.pointer (some ⟨a,0,none⟩)),d,(.pointer (some ⟨b,0,none⟩))])] 124]) (Or:=[box C [(vi ((ix (ix p1_.rows s) h).to)),(vi ((ix (ix p1_.rows s) h).out))] 53]++A) (cs:=[(.pointer (some ⟨a,0,none⟩)),d,(.pointer (some ⟨b,0,none⟩))]) (vs:=[(vi ((ix (ix p1_.rows s) h).to))]) rfl q1c rfl rfl ((pk 2 rfl (pk 2 rfl (pk 1 rfl (pk 0 rfl (List.Perm.refl _)))))) (ih z (k.mono n) W) fun ar au ac E X=>?_
        obtain⟨Y,Z,rfl,rfl,aa⟩:=X
        refine z8 ?_
        refine zq ?_
        obtain⟨ab,c⟩:=ze c
        refine zi (jg rfl rfl ab) ?_
        refine zl (vi (h+1)) ?_
        refine z8 ?_
        exact⟨dkt,E,jm,(p,h+1,V,Y,Z),Nat.lt_succ_self _,⟨rfl,trivial⟩,⟨[box C [(vi ((ix (ix p1_.rows s) h).to)),(vi ((ix (ix p1_.rows s) h).out))] 53],(pk 3 rfl (pk 2 rfl (pk 0 rfl (pk 0 rfl (List.Perm.refl _)))))⟩,c,aa,trivial⟩
      · refine jk ?_
        show zcn _ _ _ _ _ .ret _ [] _ _
        obtain rfl:=Option.some.inj c
        refine om (D:=[]) (J:=[]) (O':=[box a [u] 88,w,box b [(.func (.func 76) #[] #[(.pointer (some ⟨a,0,none⟩)),d,(.pointer (some ⟨b,0,none⟩))])] 124]) (rs:=[]) (vs:=[]) n ((pk 1 rfl (pk 1 rfl (pk 0 rfl (List.Perm.refl _))))) rfl trivial ?_
        exact⟨u,w,rfl,rfl,z⟩
theorem zau{N:Nat}{R:RH}{s:Int}{a:Nat}{p0_:List Bool}{d:Value}{fAg:Frag}(g:ORep x9 R fAg d p0_){p1_:Mach}{c:Value}(h:PRep (jf false false) R c p1_){b:Nat}{r:List Bool}(i:yz N N s p0_ p1_=some r):CallG prog 76 #[(vi s),(.pointer (some ⟨a,0,none⟩)),c,(.pointer (some ⟨b,0,none⟩))] R [box a [d] 88,fAg,box b [.func (.func 76) #[] #[(.pointer (some ⟨a,0,none⟩)),c,(.pointer (some ⟨b,0,none⟩))]] 124] (fun v R' O'=> ∃ e f,v= .tuple #[]∧O'=[box a [e] 88,f,box b [.func (.func 76) #[] #[(.pointer (some ⟨a,0,none⟩)),c,(.pointer (some ⟨b,0,none⟩))]] 124]∧ORep x9 R' f e r):=z8u N g h i
theorem zd6{N:Nat}{R:RH}{s:(List Bool)}{c:Value}(h:VRep (tSl false x9) R c s){f:Bool}{r:Int}(b:z1p N s f=some r):CallP prog 85 #[c,(.bool f)] R (fun v R'=>v=(vi r)):=by
 refine qo (args:=[c,(.bool f)]) func85 rfl rfl fun A=>?_;rw [z1p] at b;refine zt (zn (vi 0) (z8 ?_));obtain⟨l,a,b⟩:=zu b;refine jb (γ:=Unit) (rs [4,19]) (fun g=>[]) (fun g=>[]++A) (fun g R=>l=Ex.go g∧True) ?_ ?_
 refine zt (zl c (zi (qz rfl underlying88 rfl (jd h)) (zl (vi 0) (z8 (q9 (kv (γ:=Nat×Int) (rs [4,6,8,19]) (fun g=>[(8,(vi g.2))]) (fun g=>[]++A) (fun g R=>gz N s f g.1 g.2=some l∧True) (fun g=>g.1) (N,0) prm ⟨a,trivial⟩ ?_))))));clear a;rintro⟨k,d⟩ q x e ⟨a,_⟩;rcases k with _|k
 exact qy a;replace a:gz N s f (k+1) d=some l:=a;rw [gz] at a;refine zt (zi (jh rfl rfl) (z8 (zy (qa rfl a (fun a=>?_) (fun a=>?_)))));refine qc (zy (q9 (zt (zl (vi d) (zn (vi d) (j5 (zl (.bool f) (zl c (zl (vi d) ?_)))))))))
 obtain⟨j,a⟩:=ze a;refine yj (i:=d.toNat) rfl z7k rfl (jd (h.mono e)) (zb rfl j.1) (zm j) fun t m=>?_;refine j4 rfl ty4 rfl m fun u n=>?_;obtain rfl:=yl.1 n;refine zi (zh5 underlying4 rfl rfl) (z8 (qa rfl a (fun a=>?_) (fun a=>?_)))
 refine zt (zl (vi d) (zn (vi d) (z8 (qw ?_))));replace b:=z2h a b;obtain rfl:=Option.some.inj b;refine qg (D:=[]) (J:=[]) (rs:=[.tmp 4]) (vs:=[(vi d)]) e rfl rfl ⟨rfl,trivial⟩ ?_;exact⟨rfl,rfl⟩;refine qc (zq ?_);obtain⟨o,a⟩:=ze a
 refine zi (jg rfl rfl o) (zl (vi (d+1)) (z8 ?_));exact⟨dkt,(RH.le.refl _),jm,(k,d+1),Nat.lt_succ_self _,⟨rfl,trivial⟩,prm,a,trivial⟩;refine jk ?_;exact⟨dkt,e,jm,(),trivial,prm,(Option.some.inj a).symm,trivial⟩;rintro y w z p ⟨rfl,_⟩;replace b:=z10 b;refine zt (zn (vi (-1)) (z8 (qw ?_)))
 obtain rfl:=Option.some.inj b;refine qg (D:=[]) (J:=[]) (rs:=[.tmp 4]) (vs:=[(vi (-1))]) p rfl rfl ⟨rfl,trivial⟩ ?_;exact⟨rfl,rfl⟩
theorem q2x:Enters prog 85:=enters_of func85 rfl (by kernel_rfl)
theorem zb8{N:Nat}{R:RH}{s:(List Bool)}{a:Value}(d:VRep (tSl false x9) R a s){c:Bool}{r:Bool}(b:z0c N s c=some r):CallP prog 77 #[a,(.bool c)] R (fun v R'=>v=(.bool r)):=by
 refine qo (args:=[a,(.bool c)]) func77 rfl rfl fun A=>?_;rw [z0c] at b;refine zt (zn (.bool false) (j5 (zl a (zl (.bool c) ?_))));obtain⟨f,g,b⟩:=zu b;refine jl rfl q2x rfl (zd6 d g) fun i j e h=>?_;obtain rfl:=h
 refine zi (z6p rfl rfl) (zn (.bool (decide (0≤f))) (z8 (qw ?_)));obtain rfl:=Option.some.inj b;refine qg (D:=[]) (J:=[]) (rs:=[.tmp 4]) (vs:=[(.bool (decide (0≤f)))]) e rfl rfl ⟨rfl,trivial⟩ ?_;exact⟨rfl,rfl⟩
theorem q43:Enters prog 77:=enters_of func77 rfl (by kernel_rfl)
theorem zby{N:Nat}{R:RH}{m:Mach}{h:Value}(j:VRep (jf false false) R h m){r:Bool×Int}(a:z1c N m=some r):CallP prog 63 #[h] R (fun v R'=>v= .tuple #[(.bool r.1),(vi r.2)]):=by
 refine qo (args:=[h]) func63 rfl rfl fun A=>?_;rw [z1c] at a;refine zt (vo (T:=(jf false false)) rfl rfl rfl j fun o Z f O L=>?_);refine zn (.bool false) (zn (vi 0) (z8 (zy (zt (zi (jo z0z rfl rfl O (j.mono f)) ?_)))));obtain⟨p,P,a⟩:=zu a
 refine jl rfl q45 rfl (zfa (j.mono f) P) fun v8 Q e S=>?_;obtain rfl:=S;refine zn (vi p) (j5 (zl (vi p) (zi (tu rfl rfl) (z8 (qa rfl a (fun a=>?_) (fun a=>?_))))));refine zt (zl (vi p) (zn (.bool false) (zn (vi p) (z8 (qw ?_)))));obtain rfl:=Option.some.inj a
 refine qg (D:=[]) (J:=[]) (rs:=[.tmp 2,.tmp 3]) (vs:=[(.bool false),(vi p)]) (f.trans e) rfl rfl ⟨rfl,rfl,trivial⟩ ?_;exact⟨rfl,rfl⟩;refine qc (zt (ku rfl pg vv rfl (L.mono e) fun U w=>?_));refine j4 rfl z3k rfl w fun V x=>?_;refine zi (qz rfl underlying25 rfl (jd x)) ?_
 obtain⟨g,a⟩:=ze a;refine z1r (T:=x9) (m:=(↑m.rows.length:Int).toNat) (c:=(↑m.rows.length:Int).toNat) rfl underlying88 zo4 (zb rfl g.1) (zb rfl g.1) (Nat.le_refl _) (z2w g) (z2v g) fun q y z k=>?_;refine jc rfl zy3 fun b=>?_
 refine qm (i:=0) (vs:=[q]) zy1 rfl rfl (ui k) rfl rfl rfl (qb (uy k) j3) ?_;refine j5 (jc rfl q1x fun d=>?_)
 refine j5 (zi (z1z (fs:=[]) (cs:=[(.pointer (some ⟨b,0,none⟩)),o,(.pointer (some ⟨d,0,none⟩))]) rfl rfl) (qm (i:=0) (vs:=[(.func (.func 76) #[] #[(.pointer (some ⟨b,0,none⟩)),o,(.pointer (some ⟨d,0,none⟩))])]) q1d rfl rfl rfl rfl rfl rfl (qb rfl j3) ?_));refine j5 (zi (zg (i:=0) zyz rfl rfl rfl) ?_)
 obtain⟨B,C,a⟩:=zu a
 refine fe (Oc:=[box b [q] 88,y,box d [(.func (.func 76) #[] #[(.pointer (some ⟨b,0,none⟩)),o,(.pointer (some ⟨d,0,none⟩))])] 124]) (Or:=[]++A) (cs:=[(.pointer (some ⟨b,0,none⟩)),o,(.pointer (some ⟨d,0,none⟩))]) (vs:=[(vi 0)]) rfl q1c rfl rfl ((pk 1 rfl (pk 1 rfl (pk 0 rfl (List.Perm.refl _))))) (zau k (L.mono e) C) fun W X M s E=>?_
 obtain⟨l,F,rfl,rfl,G⟩:=E;refine j5 (zi (zg (i:=0) zec rfl rfl rfl) ?_);obtain⟨n,H,a⟩:=zu a;refine zgu (cs:=[]) (vs:=[l,(.bool false)]) (φ:=fun v=>v=(.bool n)) rfl q43 rfl rfl (fun I t u=>zb8 (z5z ((zdt 1 rfl G t u):VRep (vz x9) I l B)) H) fun Y K=>?_;obtain rfl:=K
 refine zi (p9 rfl) (zn (.bool (!n)) (zn (vi 0) (z8 (qw ?_))));obtain rfl:=Option.some.inj a
 refine qg (D:=[]) (J:=[box b [l] 88,F,box d [(.func (.func 76) #[] #[(.pointer (some ⟨b,0,none⟩)),o,(.pointer (some ⟨d,0,none⟩))])] 124]) (rs:=[.tmp 2,.tmp 3]) (vs:=[(.bool (!n)),(vi 0)]) ((f.trans e).trans s) rfl rfl ⟨rfl,rfl,trivial⟩ ?_;exact⟨rfl,rfl⟩
theorem q30:Enters prog 63:=enters_of func63 rfl (by kernel_rfl)
theorem z4k{N:Nat}{R:RH}{m:Mach}{e:Value}(f:VRep (jf false false) R e m){r:Int}(a:z0b N m=some r):CallP prog 35 #[e] R (fun v R'=>v=(vi r)):=by
 refine qo (args:=[e]) func35 rfl rfl fun A=>?_;rw [z0b] at a;refine zt (vo (T:=(jf false false)) rfl rfl rfl f fun s t c j u=>?_);refine zn (vi 0) (j5 (zi (jo z0z rfl rfl j (f.mono c)) ?_));obtain⟨b,k,a⟩:=zu a
 refine jl rfl q30 rfl (zby (f.mono c) k) fun w l d n=>?_;obtain rfl:=n
 refine zl (.tuple #[(.bool b.1),(vi b.2)]) (zi (jv rfl rfl) (zi (jv rfl rfl) (zn (.bool b.1) (zn (vi b.2) (z8 (zy (zt (ji (v:=(vi b.2)) rfl (zf rfl) (ji rfl (xe rfl rfl) (ji (v:=(.bool (decide (b.2=0)))) rfl (zf rfl) (j6 rfl rfl rfl rfl (fun i=>qi (v:=(.bool b.1)) (zf rfl)) fun o g=>?_)))))))))))
 refine j6 rfl rfl rfl rfl (fun i=>qi (p9 (g.1 (zk rfl i)))) fun p h=>?_;refine ji rfl (y5 rfl (fun q=>(h.1 (zk rfl q))) rfl) (z8 (qa rfl a (fun a=>?_) (fun a=>?_)));refine zt (zn (vi 11) (z8 (qw ?_)));obtain rfl:=Option.some.inj a
 refine qg (D:=[]) (J:=[]) (rs:=[.tmp 2]) (vs:=[(vi 11)]) (c.trans d) rfl rfl ⟨rfl,trivial⟩ ?_;exact⟨rfl,rfl⟩;refine qc (zt (zl (vi b.2) (zn (vi b.2) (z8 (qw ?_)))));obtain rfl:=Option.some.inj a;refine qg (D:=[]) (J:=[]) (rs:=[.tmp 2]) (vs:=[(vi b.2)]) (c.trans d) rfl rfl ⟨rfl,trivial⟩ ?_
 exact⟨rfl,rfl⟩
theorem zvp:Enters prog 35:=enters_of func35 rfl (by kernel_rfl)
theorem q2r{a:Bool}:ZeroOk prog 88 (tSl a x9) ([]:List Bool) 24:=by
 obtain⟨i,zv,hi,c,d,f,g⟩:=z11 (P:=prog) (e:=88) (zv:=vs0) (k:=1) (b:=24) (by kernel_rfl);exact⟨i,zv,hi,c,d,f,fun R=>by subst g;exact(u7 rfl l8)⟩
theorem zmx: ∀ w,∃ z,(zeroValue 36).run prog w= .ok z w∧z.cells=([.slice none 0 0]:List Value).toArray:=fun w=>⟨vs0,by kernel_rfl,rfl⟩
theorem zeh: ∀ w,(sizeOf 36).run prog w= .ok 1 w:=fun w=>by kernel_rfl
theorem z5i: ∀ w,(isAgg 36).run prog w= .ok false w:=fun w=>by kernel_rfl
theorem lq{N:Nat}{R:RH}{m:Mach}{a:Value}(f:VRep (jf false false) R a m){s:Int}{r:Mach×Int}(b:bi N m s=some r):CallP prog 47 #[a,(vi s)] R (fun v R'=> ∃ h i,v= .func (.func 66) #[] #[h,i]∧PRep (jf false false) R' h r.1∧PRep (zz .i64) R' i r.2):=by
 refine qo (args:=[a,(vi s)]) func47 rfl rfl fun A=>?_;rw [bi] at b;refine zt (vo (T:=(jf false false)) rfl rfl rfl f fun d l g n j=>?_);refine z7s (T:=(zz .i64)) rfl rfl (qh.2 rfl) fun e o c k=>?_
 refine zn .nilFunc (j5 (zi (z1z (fs:=[]) (cs:=[d,e]) rfl rfl) (zn (.func (.func 66) #[] #[d,e]) (z8 (qw ?_)))));obtain rfl:=Option.some.inj b;refine qg (D:=[]) (J:=[]) (rs:=[.tmp 4]) (vs:=[(.func (.func 66) #[] #[d,e])]) (g.trans c) rfl rfl ⟨rfl,trivial⟩ ?_;exact⟨rfl,⟨d,e,rfl,(j.mono c),k⟩⟩
theorem zkx:Enters prog 47:=enters_of func47 rfl (by kernel_rfl)
theorem ae{N:Nat}{R:RH}{p0_:Mach}{f:Value}(u:PRep (jf false false) R f p0_){p1_:Int}{h:Value}(y:PRep (zz .i64) R h p1_):zwd prog 66 [f,h] R (fun(x:Sc) vs R=>vs=[(z4q x)])  (fun σ B s=>dh N p0_ p1_ σ B s):=by
 intro yv σ B I R1 O s0 U p W X c Y Z;refine ai (args:=[yv,f,h]) func66 rfl rfl fun A=>?_;dsimp only at c;rw [dh] at c;refine zt (ku rfl pg vv rfl (u.mono p) fun v1 h2=>?_);refine j4 rfl z3k rfl h2 fun v3 h4=>?_;refine j4 rfl ty3 rfl (y.mono p) fun v5 h6=>?_;obtain rfl:=qh.1 h6
 obtain⟨V,c⟩:=ze c;refine yj (i:=p1_.toNat) rfl zic rfl (jd h4) (zb rfl V.1) (zm V) fun v8 h9=>?_;refine j4 rfl zgo rfl h9 fun af E=>?_
 refine zi (qz rfl underlying54 rfl (jd E)) (zl (vi 0) (z8 (q9 (kv (γ:=Nat×σ×Int×(List Frag)) (rs [4,6,12,30]) (fun g=>[(12,(vi g.2.2.1))]) (fun g=>[]++(g.2.2.2++A)) (fun g R=>ib N σ B p0_ p1_ g.1 g.2.1 g.2.2.1=some U∧I g.2.1 R g.2.2.2∧True) (fun g=>g.1) (N,s0,0,O) prm ⟨c,X,trivial⟩ ?_))));clear c
 rintro⟨m,z,a,k⟩ ag ah j ⟨c,l,_⟩;rcases m with _|m;exact qy c;replace c:ib N σ B p0_ p1_ (m+1) z a=some U:=c;rw [ib] at c;refine zt (zi (jh rfl rfl) (z8 (zy (qa rfl c (fun c=>?_) (fun c=>?_)))));refine qc ?_;obtain⟨L,e,c⟩:=zu c
 refine jb (γ:=σ×(List Frag)) (rs [4,6,14,29]) (fun g=>[]) (fun g=>[]++(g.2++A)) (fun g R=>L=Ex.go g.1∧I g.1 R g.2∧True) ?_ ?_;refine q9 (zt (zl (vi a) ?_));obtain⟨F,e⟩:=ze e;refine yj (i:=a.toNat) rfl zj7 rfl (jd (E.mono j)) (zb rfl F.1) (zm F) fun aj M=>?_
 refine j4 rfl zmp rfl M fun ak P=>?_;obtain rfl:=z2e.1 P;refine jc rfl zst fun n=>?_;refine zn (vi a) (qm (i:=0) (vs:=[(vi ((ix (ix p0_.rows p1_) a).to)),(vi ((ix (ix p0_.rows p1_) a).out))]) zgr rfl rfl rfl rfl rfl rfl (qb rfl (qb rfl j3)) ?_)
 refine j5 (zi (qd z7j rfl) (zi (zg (i:=0) ag3 rfl rfl rfl) (zi (tu rfl rfl) (zl (.bool (decide (((ix (ix p0_.rows p1_) a).to)≠(-1)))) (zai (b:=decide (((ix (ix p0_.rows p1_) a).to)≠(-1))) (fun d=>?_) (fun d=>?_))))));replace e:=zkk d e;refine z8e (s:=20) rfl rfl (congrArg Value.bool d) ?_
 refine zl yv (z8e (s:=20) rfl rfl (congrArg Value.bool d) ?_);refine zl (vi a) (z8e (s:=20) rfl rfl (congrArg Value.bool d) ?_);refine zi (qd z7j rfl) (z8e (s:=20) rfl rfl (congrArg Value.bool d) ?_);refine zi (zg (i:=0) ag3 rfl rfl rfl) (z8e (s:=20) rfl rfl (congrArg Value.bool d) ?_)
 refine zi (kw (ps:=[(0,(vi a)),(1,(vi ((ix (ix p0_.rows p1_) a).to)))]) (v:=(.agg #[(vi a),(vi ((ix (ix p0_.rows p1_) a).to))])) rfl (fun w=>by kernel_rfl)) (z8e (s:=20) rfl rfl (congrArg Value.bool d) ?_);obtain⟨o,Q,e⟩:=zu e
 refine zfq (vs:=[(.agg #[(vi a),(vi ((ix (ix p0_.rows p1_) a).to))])]) (J:=[box n [(vi ((ix (ix p0_.rows p1_) a).to)),(vi ((ix (ix p0_.rows p1_) a).out))] 53]) (Oc:=k) (A:=A) rfl rfl rfl rfl (Y (⟨a,(ix (ix p0_.rows p1_) a).to⟩:Sc) z o.1 o.2 _ _ [(.agg #[(vi a),(vi ((ix (ix p0_.rows p1_) a).to))])] j rfl l Q) fun al q r t=>?_
 refine z8e (s:=20) rfl rfl (congrArg Value.bool d) ?_;refine zi (p9 rfl) (zi (zad (v:=(.bool (!o.1))) (congrArg Value.bool d) rfl) (z8 (qa rfl e (fun e=>?_) (fun e=>?_))));refine qw ?_;replace c:=z2h e c;obtain rfl:=Option.some.inj c
 refine om (D:=[]) (J:=[box n [(vi ((ix (ix p0_.rows p1_) a).to)),(vi ((ix (ix p0_.rows p1_) a).out))] 53]) (O':=q) (rs:=[]) (vs:=[]) (j.trans r) (List.Perm.refl _) rfl trivial ?_;exact t;refine qc ?_
 exact⟨dkt,r,jm,(o.2,q),trivial,⟨[box n [(vi ((ix (ix p0_.rows p1_) a).to)),(vi ((ix (ix p0_.rows p1_) a).out))] 53],(List.Perm.refl _)⟩,(Option.some.inj e).symm,t,trivial⟩;replace e:=zk9 d e;refine z8j (s:=20) rfl rfl (congrArg Value.bool d) rfl rfl ?_;refine z8j (s:=20) rfl rfl (congrArg Value.bool d) rfl rfl ?_
 refine z8j (s:=20) rfl rfl (congrArg Value.bool d) rfl rfl ?_;refine z8j (s:=20) rfl rfl (congrArg Value.bool d) rfl rfl ?_;refine z8j (s:=20) rfl rfl (congrArg Value.bool d) rfl rfl ?_;refine z8j (s:=20) rfl rfl (congrArg Value.bool d) rfl rfl ?_;refine z8j (s:=20) rfl rfl (congrArg Value.bool d) rfl rfl ?_
 refine zi (zan (v:=(.bool false)) (congrArg Value.bool d) rfl) (z8 (zcr rfl (fun C=>nomatch C) (fun C=>?_)));clear C;refine qc ?_;exact⟨dkt,(RH.le.refl _),jm,(z,k),trivial,⟨[box n [(vi ((ix (ix p0_.rows p1_) a).to)),(vi ((ix (ix p0_.rows p1_) a).out))] 53],(List.Perm.refl _)⟩,(Option.some.inj e).symm,l,trivial⟩
 rintro⟨S,G⟩ am an H ⟨rfl,K,_⟩;replace c:=z10 c;refine zq ?_;obtain⟨T,c⟩:=ze c;refine zi (jg rfl rfl T) (zl (vi (a+1)) (z8 ?_));exact⟨dkt,H,jm,(m,S,a+1,G),Nat.lt_succ_self _,⟨rfl,trivial⟩,prm,c,K,trivial⟩;refine jk ?_;show zcn _ _ _ _ _ .ret _ [] _ _;obtain rfl:=Option.some.inj c
 refine om (D:=[]) (J:=[]) (O':=k) (rs:=[]) (vs:=[]) j (List.Perm.refl _) rfl trivial ?_;exact l
theorem zm8:Enters prog 66:=enters_of func66 rfl (by kernel_rfl)
theorem zfe: ∀ w,∃ z,(zeroValue 86).run prog w= .ok z w∧z.cells=([.int .i64 0,.int .i64 0]:List Value).toArray:=fun w=>⟨(.agg #[(vi 0),(vi 0)]),by kernel_rfl,rfl⟩
theorem zd9: ∀ w,(sizeOf 86).run prog w= .ok 2 w:=fun w=>by kernel_rfl
theorem z3q:FieldOk prog 86 1 1:=by
 obtain⟨i,hi,a⟩: ∃ i,prog.info? 3=some i∧i.size=1:=jr (by kernel_rfl);exact vg underlying86 rfl rfl hi (by rw [a];rfl)
theorem zje{N:Nat}{R:RH}{m:Mach}{ad:Value}(af:VRep (jf false false) R ad m){s:Int}{r:(List Bool)}(k:z6w N m s=some r):CallP prog 64 #[ad,(vi s)] R (fun v R'=>VRep (tSl true x9) R' v r):=by
 refine qo (args:=[ad,(vi s)]) func64 rfl rfl fun A=>?_;rw [z6w] at k;refine zt (vo (T:=(jf false false)) rfl rfl rfl af fun v1 R3 ag h5 h2=>?_);refine zn vs0 (j5 (ku rfl pg vv rfl h2 fun v6 h7=>?_));refine j4 rfl z3k rfl h7 fun v8 h9=>?_;refine zi (qz rfl underlying25 rfl (jd h9)) ?_
 obtain⟨M,k⟩:=ze k;refine z1r (T:=x9) (m:=(↑m.rows.length:Int).toNat) (c:=(↑m.rows.length:Int).toNat) rfl underlying88 zo4 (zb rfl M.1) (zb rfl M.1) (Nat.le_refl _) (z2w M) (z2v M) fun d bC ah P=>?_;refine jc rfl zy3 fun l=>?_
 refine qm (i:=0) (vs:=[d]) zy1 rfl rfl (ui P) rfl rfl rfl (qb (uy P) j3) ?_;refine j5 (zi (zg (i:=0) zec rfl rfl rfl) (zl (vi s) ?_));obtain⟨ai,k⟩:=ze k;refine kg (i:=s.toNat) rfl z7k rfl P (zb rfl ai.1) (zm ai) fun bD aU=>?_
 refine gm (i:=s.toNat) (j:=1) ty4 P rfl rfl aU (zm ai) rfl (yl.2 rfl) fun aV aW=>?_;refine z8 ?_;obtain⟨C,a,k⟩:=zu k;refine z2l (γ:=(List Bool)×Frag) false (rs [6,9,16,52]) (fun g=>[]) (fun g=>[box l [d] 88,g.2]++A) (fun g R=>C=g.1∧ORep x9 R g.2 d g.1∧capOf d=g.1.length∧True) ?_ ?_
 refine zt (zl (vi s) (bq (T:=(zz .i64)) (X:=([s]:List Int)) (ps:=[(0,(vi s))]) (css:=[[(vi s)]]) rfl underlying36 zo3 rfl rfl (ko ⟨rfl,trivial⟩) rfl rfl (by decide) fun aw aX aY aj=>?_));refine jc rfl zmx fun aZ=>?_
 refine qm (i:=0) (vs:=[aw]) zeh rfl rfl (ui aj) rfl rfl rfl (qb (uy aj) j3) ?_
 refine z8 (q9 (z1t (γ:=Nat×(List Bool)×(List Int)×Frag×Value×Frag×Nat) false (rs [6,9,18,52]) (fun g=>[(6,(.pointer (some ⟨g.2.2.2.2.2.2,0,none⟩)))]) (fun g=>[box l [d] 88,g.2.2.2.1,g.2.2.2.2.2.1,box g.2.2.2.2.2.2 [g.2.2.2.2.1] 36]++A) (fun g R=>z03 N m g.1 g.2.1 g.2.2.1=some C∧ORep x9 R g.2.2.2.1 d g.2.1∧capOf d=g.2.1.length∧ORep (zz .i64) R g.2.2.2.2.2.1 g.2.2.2.2.1 g.2.2.1∧True) (fun g=>g.1) (N,(up (mk (↑m.rows.length:Int) false) s true),([s]:List Int),aV,aw,aX,aZ) ⟨rfl,trivial⟩ ⟨[],(pk 2 rfl (pk 2 rfl (pk 1 rfl (pk 0 rfl (List.Perm.refl _)))))⟩ ⟨a,aW,((ah.trans List.length_replicate.symm).trans List.length_set.symm),aj,trivial⟩ (fun _=>rfl) ?_))
 clear a;rintro⟨Q,ax,n,ak,al,am,t⟩ bh bi bE a0 y ⟨a,ay,W,u,_⟩;rcases Q with _|Q;exact qy a;replace a:z03 N m (Q+1) ax n=some C:=a;rw [z03] at a
 refine zy (zt (zi (zg (i:=3) z5i rfl rfl rfl) (zi (mq rfl underlying36 rfl u) (zi (z01 rfl rfl) (z8 (qa rfl a (fun a=>?_) (fun a=>?_)))))));refine qc (zy (q9 (zt (zi (zg (i:=3) z5i rfl rfl rfl) (zi (zg (i:=3) z5i rfl rfl rfl) (zi (mq rfl underlying36 rfl u) ?_))))))
 obtain⟨a1,a⟩:=ze a;refine zi (z0i rfl rfl a1) ?_;obtain⟨an,a⟩:=ze a;refine kg (i:=((↑n.length:Int)-1).toNat) rfl bu rfl u (zb rfl an.1) (zm an) fun bF a2=>?_;refine ig (i:=((↑n.length:Int)-1).toNat) (j:=2) rfl ty3 u rfl rfl a2 (zm an) fun bG a3=>?_;obtain rfl:=qh.1 a3
 refine zn (vi (ix n ((↑n.length:Int)-1))) (j5 (zi (zg (i:=3) z5i rfl rfl rfl) (zi (zg (i:=3) z5i rfl rfl rfl) (zi (mq rfl underlying36 rfl u) ?_))));obtain⟨a4,a⟩:=ze a;refine zi (z0i rfl rfl a4) ?_;obtain⟨S,a⟩:=ze a
 refine zg1 (v:=al) (lo:=(0:Int).toNat) (hi:=((↑n.length:Int)-1).toNat) (mx:=(capOf al)) rfl bu rfl u (.inl ⟨rfl,rfl⟩) (.inr ⟨_,congrArg some (zb rfl (zgj S))⟩) (.inl ⟨rfl,rfl⟩) (zgf S) (z7q S) (Nat.le_trans (z7q S) (zh6 u)) (Nat.le_refl _) fun ao ap a5=>?_
 refine qm (i:=3) (vs:=[ao]) zeh rfl rfl (ui ap) rfl rfl rfl (qb (uy ap) j3) ?_;refine j5 (zi (jo z0z rfl rfl (h5.mono y) (af.mono (ag.trans y))) (zl (vi (ix n ((↑n.length:Int)-1))) ?_));obtain⟨bH,a6,a⟩:=zu a
 refine jl rfl zkx rfl (lq (af.mono (ag.trans y)) a6) fun bI bJ E a7=>?_;obtain⟨bK,bL,rfl,a8,a9⟩:=a7;refine z8 (q9 ?_);obtain⟨az,ba,a⟩:=zu a
 refine z2s (Oc:=[box l [d] 88,ak,am,box t [ao] 36]) (Or:=A) _ (fun(s:List Bool×List Int) R O=> ∃ (o:Frag) (p:Value) (q:Frag),(∃ J,O.Perm (J++[box l [d] 88,o,box t [p] 36,q]))∧ORep x9 R o d s.1∧capOf d=s.1.length∧ORep (zz .i64) R q p s.2∧True) (fun(s:List Bool×List Int) (c:Code) R O=>False) _ _ rfl zm8 (ae (N:=N) a8 a9) (List.Perm.refl _) (by decide) (by rintro _ _ _ rfl;rfl) (by rintro s R2 R3 O2 aA ⟨o,p,q,hJ,w,z,U,_⟩;exact⟨o,p,q,hJ,w.mono aA,z,U.mono aA,trivial⟩) (fun _ _ _ _ _ _ h=>h) (fun _ _ _ _ _ h=>h.elim) ⟨ak,ao,am,⟨[],(pk 0 rfl (pk 0 rfl (pk 1 rfl (pk 0 rfl (List.Perm.refl _)))))⟩,(ay.mono E),W,(ap.mono E),trivial⟩ ba ?_ ?_ ?_
 rintro b bb bM bN bj bO bk bl bm aC ⟨o,p,q,⟨_,hJ⟩,w,z,U,_⟩ Z bP;have f:=Z;clear Z;(try dsimp only at f);refine lv (si hJ) ?_;obtain rfl:=aC;refine zq (jc rfl zfe fun F=>?_)
 refine qm (i:=0) (vs:=[(vi b.fA),(vi b.fB)]) zd9 rfl rfl rfl rfl rfl rfl (qb rfl (qb rfl j3)) ?_;refine z8 ?_;refine⟨rfl,rfl,(RH.le.refl _),[box F [(vi b.fA),(vi b.fB)] 86,box l [d] 88,o,box t [p] 36,q],List.Perm.refl _,fun bQ=>?_⟩
 refine q9 (zt (zi (zg (i:=1) zec rfl rfl rfl) (zi (qd z3q rfl) (zi (zg (i:=0) ag3 rfl rfl rfl) ?_))));obtain⟨aq,f⟩:=ze f;refine kg (i:=b.fB.toNat) rfl z7k rfl w (zb rfl aq.1) (zm aq) fun bR bc=>?_;refine ig (i:=b.fB.toNat) (j:=2) rfl ty4 w rfl rfl bc (zm aq) fun bn aD=>?_
 obtain rfl:=yl.1 aD;refine zi (p9 rfl) (z8 (qa rfl f (fun f=>?_) (fun f=>?_)));refine zt (zi (zg (i:=1) zec rfl rfl rfl) (zi (qd z3q rfl) (zi (zg (i:=0) ag3 rfl rfl rfl) ?_)));obtain⟨G,f⟩:=ze f;refine kg (i:=b.fB.toNat) rfl z7k rfl w (zb rfl G.1) (zm G) fun bo aE=>?_
 refine gm (i:=b.fB.toNat) (j:=2) ty4 w rfl rfl aE (zm G) rfl (yl.2 rfl) fun aa aF=>?_
 refine z8 (zq (zi (zg (i:=3) z5i rfl rfl rfl) (zi (qd z3q rfl) (zi (zg (i:=0) ag3 rfl rfl rfl) (bq (T:=(zz .i64)) (X:=([b.fB]:List Int)) (ps:=[(0,(vi b.fB))]) (css:=[[(vi b.fB)]]) rfl underlying36 zo3 rfl rfl (ko ⟨rfl,trivial⟩) rfl rfl (by decide) fun aG bp V aH=>?_)))))
 refine uk (i:=0) rfl aH fun aI x aJ=>?_;have aK:VRep (tSl true (zz .i64)) aI aG ([b.fB]:List Int):=(z0l aJ V);obtain⟨ab,f⟩:=ze f
 refine pz (i:=4) (X:=bb.2) (Y:=([b.fB]:List Int)) rfl underlying36 zo3 rfl rfl rfl (U.mono x) (jd (Sub.v (B:=(tSl false (zz .i64))) (uh Sub.refl (fun _=>rfl)) aK)) ab.1 ab.2 fun H ac I=>?_;refine qm (i:=3) (vs:=[H]) zeh rfl rfl (ui I) rfl rfl rfl (qb (uy I) j3) ?_;refine z8 ?_
 obtain⟨rfl,rfl⟩:=Prod.mk.inj (Option.some.inj f);exact⟨rfl,x,[box F [(vi b.fA),(vi b.fB)] 86,box l [d] 88,aa,box t [H] 36,ac],List.Perm.refl _,rfl,⟨aa,H,ac,⟨[box F [(vi b.fA),(vi b.fB)] 86],(List.Perm.refl _)⟩,(aF.mono x),(z.trans List.length_set.symm),I,trivial⟩⟩;refine qc ?_
 obtain⟨rfl,rfl⟩:=Prod.mk.inj (Option.some.inj f);exact⟨rfl,(RH.le.refl _),[box F [(vi b.fA),(vi b.fB)] 86,box l [d] 88,o,box t [p] 36,q],List.Perm.refl _,rfl,⟨o,p,q,⟨[box F [(vi b.fA),(vi b.fB)] 86],(List.Perm.refl _)⟩,w,z,U,trivial⟩⟩
 rintro br bs be ar ⟨aL,K,aM,⟨_,hJ⟩,aN,au,L,_⟩;refine⟨_,_,hJ,?_⟩;refine zt (zi (zg (i:=2) z5i rfl rfl rfl) (z8 (zq (jc rfl zmx fun aO=>?_))));refine qm (i:=0) (vs:=[K]) zeh rfl rfl (ui L) rfl rfl rfl (qb (uy L) j3) ?_;refine z8 ?_
 exact⟨(fun e=>nomatch e),(E.trans ar),jm,(Q,az.1,az.2,aL,K,aM,aO),Nat.lt_succ_self _,⟨rfl,trivial⟩,⟨[box t [K] 36],(pk 3 rfl (pk 1 rfl (pk 1 rfl (pk 1 rfl (pk 0 rfl (List.Perm.refl _))))))⟩,a,aN,au,L,trivial⟩;exact fun _ _ _ _ _ h=>h.elim;refine jk ?_
 exact⟨(fun e=>nomatch e),y,jm,(ax,ak),trivial,⟨[am,box t [al] 36],(pk 2 rfl (pk 2 rfl (pk 0 rfl (pk 0 rfl (List.Perm.refl _)))))⟩,(Option.some.inj a).symm,ay,W,trivial⟩;rintro⟨C,bS⟩ bt bv bT bf aP ⟨rfl,bg,aQ,_⟩;refine zt (zi (zg (i:=0) zec rfl rfl rfl) (zn d (z8 (mg (i:=1) rfl bg fun aR av aS=>?_))))
 have aT:VRep (tSl true x9) aR d C:=(z0l aS aQ);refine qw ?_;obtain rfl:=Option.some.inj k;refine qg (D:=[]) (J:=[box l [d] 88]) (rs:=[.tmp 4]) (vs:=[d]) ((ag.trans aP).trans av) rfl rfl ⟨rfl,trivial⟩ ?_;exact⟨rfl,aT⟩
theorem q2u:Enters prog 64:=enters_of func64 rfl (by kernel_rfl)
theorem zya{a:Bool}:TyOk prog 88 (tSl a x9):=by
 obtain⟨i,hi,b⟩: ∃ i,prog.info? 88=some i∧i.size=1:=jr (by kernel_rfl);exact rz underlying88 hi rfl b
theorem zvq{a:Bool}:SlOk prog 113 88 (tSl a x9):=⟨underlying113,zya⟩
theorem zda{N:Nat}{R:RH}{m:Mach}{aa:Value}(ab:VRep (jf false false) R aa m){r:(List Int)}(w:z4y N m=some r):CallP prog 36 #[aa] R (fun v R'=>VRep (tSl true (zz .i64)) R' v r):=by
 refine qo (args:=[aa]) func36 rfl rfl fun A=>?_;rw [z4y] at w;refine zt (vo (T:=(jf false false)) rfl rfl rfl ab fun v1 R3 ac h5 h2=>?_);refine zn vs0 (j5 (ku rfl pg vv rfl h2 fun v6 h7=>?_));refine j4 rfl z3k rfl h7 fun v8 h9=>?_;refine zi (qz rfl underlying25 rfl (jd h9)) ?_
 obtain⟨M,w⟩:=ze w;refine z1r (T:=(tSl true x9)) (m:=(↑m.rows.length:Int).toNat) (c:=(↑m.rows.length:Int).toNat) rfl underlying113 q2r (zb rfl M.1) (zb rfl M.1) (Nat.le_refl _) (z2w M) (z2v M) fun s aT ad ap=>?_;refine zn s (z8 ?_);obtain⟨d,e,w⟩:=zu w
 refine jb (γ:=(List (List Bool))×Frag) (rs [4,5,11,23]) (fun g=>[]) (fun g=>[g.2]++A) (fun g R=>d=g.1∧ORep (tSl true x9) R g.2 s g.1∧capOf s=g.1.length∧True) ?_ ?_
 refine zt (zl s (zi (mq rfl underlying113 rfl ap) (zl (vi 0) (z8 (q9 (kv (γ:=Nat×Int×(List (List Bool))×Frag) (rs [4,5,13,23]) (fun g=>[(13,(vi g.2.1))]) (fun g=>[g.2.2.2]++A) (fun g R=>il N m g.1 g.2.1 g.2.2.1=some d∧ORep (tSl true x9) R g.2.2.2 s g.2.2.1∧capOf s=g.2.2.1.length∧True) (fun g=>g.1) (N,0,(mk (↑m.rows.length:Int) ([]:List Bool)),aT) prm ⟨e,ap,(ad.trans List.length_replicate.symm),trivial⟩ ?_))))))
 clear e;rintro⟨O,x,ae,aU⟩ ce cf F ⟨e,af,W,_⟩;rcases O with _|O;exact qy e;replace e:il N m (O+1) x ae=some d:=e;rw [il] at e;refine zt (zi (jh rfl rfl) (z8 (zy (qa rfl e (fun e=>?_) (fun e=>?_)))))
 refine qc (zy (q9 (zt (zl (vi x) (zn (vi x) (z8 (zq (zl s (zl (vi x) (zi (jo z0z rfl rfl (h5.mono F) (ab.mono (ac.trans F))) (zl (vi x) ?_)))))))))));obtain⟨aV,aW,e⟩:=zu e;refine jl rfl q2u rfl (zje (ab.mono (ac.trans F)) aW) fun cg ch G aX=>?_
 obtain⟨ag,e⟩:=ze e;refine kg (i:=x.toNat) rfl zvq rfl (af.mono G) (zb rfl ag.1) (zm ag) fun ci aY=>?_;refine gm (i:=x.toNat) (j:=0) zya (af.mono G) rfl rfl aY (zm ag) rfl aX fun ah aZ=>?_;refine z8 (zq ?_);obtain⟨a0,e⟩:=ze e
 refine zi (jg rfl rfl a0) (zl (vi (x+1)) (z8 ?_));exact⟨dkt,G,jm,(O,x+1,(up ae x aV),ah),Nat.lt_succ_self _,⟨rfl,trivial⟩,prm,e,aZ,(W.trans List.length_set.symm),trivial⟩;refine jk ?_;exact⟨dkt,F,jm,(ae,aU),trivial,prm,(Option.some.inj e).symm,af,W,trivial⟩;rintro⟨d,P⟩ cj ck X ⟨rfl,Q,bc,_⟩
 refine zt (ku rfl pg vv rfl (h2.mono X) fun cl a1=>?_);refine j4 rfl z3k rfl a1 fun cm a2=>?_;refine zi (qz rfl underlying25 rfl (jd a2)) ?_;obtain⟨S,w⟩:=ze w
 refine z1r (T:=(zz .i64)) (m:=(↑m.rows.length:Int).toNat) (c:=(↑m.rows.length:Int).toNat) rfl underlying36 zo3 (zb rfl S.1) (zb rfl S.1) (Nat.le_refl _) (z2w S) (z2v S) fun k a3 ai aq=>?_;refine zn k (z8 ?_);obtain⟨H,e,w⟩:=zu w
 refine jb (γ:=(List Int)×Frag) (rs [6,7,27,63]) (fun g=>[]) (fun g=>[g.2]++A) (fun g R=>H=g.1∧ORep (zz .i64) R g.2 k g.1∧capOf k=g.1.length∧True) ?_ ?_
 refine zt (zl k (zi (mq rfl underlying36 rfl aq) (zl (vi 0) (z8 (q9 (kv (γ:=Nat×Int×(List Int)×Frag) (rs [6,7,29,63]) (fun g=>[(29,(vi g.2.1))]) (fun g=>[P,g.2.2.2]++A) (fun g R=>z08 N m d g.1 g.2.1 g.2.2.1=some H∧ORep (zz .i64) R g.2.2.2 k g.2.2.1∧capOf k=g.2.2.1.length∧True) (fun g=>g.1) (N,0,(mk (↑m.rows.length:Int) (0:Int)),a3) ⟨[],(pk 1 rfl (pk 0 rfl (List.Perm.refl _)))⟩ ⟨e,aq,(ai.trans List.length_replicate.symm),trivial⟩ ?_))))))
 clear e;rintro⟨U,a,aj,ar⟩ be cn C ⟨e,au,Y,_⟩;rcases U with _|U;exact qy e;replace e:z08 N m d (U+1) a aj=some H:=e;rw [z08] at e;refine zt (zi (jh rfl rfl) (z8 (zy (qa rfl e (fun e=>?_) (fun e=>?_)))));refine qc ?_;obtain⟨I,n,e⟩:=zu e
 refine jb (γ:=(List Int)×Frag) (rs [6,7,31,62]) (fun g=>[]) (fun g=>[P,g.2]++A) (fun g R=>I=g.1∧ORep (zz .i64) R g.2 k g.1∧capOf k=g.1.length∧True) ?_ ?_
 refine q9 (zt (zl (vi a) (zn (vi a) (z8 (q9 (kv (γ:=Nat×(List Int)×Frag) (rs [32,62]) (fun g=>[]) (fun g=>[P,g.2.2]++A) (fun g R=>iq N d a g.1 g.2.1=some I∧ORep (zz .i64) R g.2.2 k g.2.1∧capOf k=g.2.1.length∧True) (fun g=>g.1) (N,aj,ar) prm ⟨n,au,Y,trivial⟩ ?_))))));clear n
 rintro⟨V,b,a4⟩ bf co E ⟨n,z,Z,_⟩;rcases V with _|V;exact qy n;replace n:iq N d a (V+1) b=some I:=n;rw [iq] at n;refine zy (zy ?_);obtain⟨ak,al,av,am,an,aw,n⟩:=q1l n
 refine mh 24 [] [phX s,phX (vi a),(fun u _=>z0w (tSl true x9) s d u a.toNat),phR (tSl true x9) (ix d a),phX k,phX (vi a),(fun u _=>z0w (zz .i64) k b u a.toNat),phX (vi (ix b a)),phP x9 (ix (ix d a) (ix b a)),phX (.bool (ix (ix d a) (ix b a))),phX (.bool (!(ix (ix d a) (ix b a)))),phX (.bool (!(ix (ix d a) (ix b a)))),phG (true&&((!(ix (ix d a) (ix b a)))==false)) (phX s),phG (true&&((!(ix (ix d a) (ix b a)))==false)) (phX k),phG (true&&((!(ix (ix d a) (ix b a)))==false)) (phX (vi a)),phG (true&&((!(ix (ix d a) (ix b a)))==false)) ((fun u _=>z0w (zz .i64) k b u a.toNat)),phG (true&&((!(ix (ix d a) (ix b a)))==false)) (phX (vi (ix b a))),phG (true&&((!(ix (ix d a) (ix b a)))==false)) ((fun u _=>z0w (tSl true x9) s d u (ix b a).toNat)),phG (true&&((!(ix (ix d a) (ix b a)))==false)) (phR (tSl true x9) (ix d (ix b a))),phG (true&&((!(ix (ix d a) (ix b a)))==false)) (phX (vi a)),phG (true&&((!(ix (ix d a) (ix b a)))==false)) (phP x9 (ix (ix d (ix b a)) a)),phG (true&&((!(ix (ix d a) (ix b a)))==false)) (phX (.bool (ix (ix d (ix b a)) a))),phG (true&&((!(ix (ix d a) (ix b a)))==false)) (phX (.bool (!(ix (ix d (ix b a)) a)))),phX (.bool ((!(ix (ix d a) (ix b a)))||(!(ix (ix d (ix b a)) a))))] mixed (by kernel_rfl) (pq ⟨zo,zo,(fun _ _ _ _ h=>h),o5,zo,zo,(fun _ _ _ _ h=>h),zo,dw,zo,zo,zo,(qp zo),(qp zo),(qp zo),(qp (fun _ _ _ _ h=>h)),(qp zo),(qp (fun _ _ _ _ h=>h)),(qp o5),(qp zo),(qp dw),(qp zo),(qp zo),zo,trivial⟩) ⟨?_,?_,?_,?_,?_,?_,?_,?_,?_,?_,?_,?_,?_,?_,?_,?_,?_,?_,?_,?_,?_,?_,?_,?_,trivial⟩ fun cp t=>?_
 intro l cq f p hd;exact za rfl rfl rfl (zw (zf (p 3 rfl)));intro l cr f p hd;exact za rfl rfl rfl (zw (zf (p 6 rfl)));rintro l cs f p ⟨o,y,_⟩;exact za rfl rfl rfl (fw (i:=a.toNat) zvq (o rfl) ((Q.mono (C.trans E)).mono f) (zb (y rfl) ak.1) (zm ak));rintro l ct f p ⟨o,_⟩
 exact za rfl rfl rfl (z8f (i:=a.toNat) (j:=0) zya ((Q.mono (C.trans E)).mono f) rfl rfl (o rfl) (zm ak));intro l cu f p hd;exact za rfl rfl rfl (zw (zf (p 5 rfl)));intro l cv f p hd;exact za rfl rfl rfl (zw (zf (p 6 rfl)));rintro l cw f p ⟨o,y,_⟩
 exact za rfl rfl rfl (fw (i:=a.toNat) bu (o rfl) (z.mono f) (zb (y rfl) al.1) (zm al));rintro l cx f p ⟨o,_⟩;exact za rfl rfl rfl (uf (z8f (i:=a.toNat) (j:=1) ty3 (z.mono f) rfl rfl (o rfl) (zm al)) (fun _ _ h=>qh.1 h));rintro l cy f p ⟨o,y,_⟩
 exact za rfl rfl rfl (ou (i:=(ix b a).toNat) z7k rfl (jd (o rfl)) (zb (y rfl) av.1) (zm av));rintro l cz f p ⟨o,_⟩;have ah:=o rfl;exact za rfl rfl rfl (uf (ul ty4 rfl ah) (fun _ _ h=>yl.1 h));rintro l bg f p ⟨o,_⟩;exact za rfl rfl rfl (zw (p9 (o rfl)));rintro l bh f p ⟨o,_⟩
 exact za rfl rfl rfl (zw (zf (o rfl)));rintro l bi f p ⟨o,_⟩;exact zx (Gj:=true) (Bj:= !(ix (ix d a) (ix b a))) rfl rfl rfl (uj (o rfl)) rfl (fun B q=>zw (zf (p 3 rfl)));rintro l bj f p ⟨o,_⟩
 exact zx (Gj:=true) (Bj:= !(ix (ix d a) (ix b a))) rfl rfl rfl (uj (o rfl)) rfl (fun B q=>zw (zf (p 5 rfl)));rintro l bk f p ⟨o,_⟩;exact zx (Gj:=true) (Bj:= !(ix (ix d a) (ix b a))) rfl rfl rfl (uj (o rfl)) rfl (fun B q=>zw (zf (p 6 rfl)));rintro l bl f p ⟨o,y,d2,_⟩
 exact zx (Gj:=true) (Bj:= !(ix (ix d a) (ix b a))) rfl rfl rfl (uj (d2 rfl)) rfl (fun B q=>fw (i:=a.toNat) bu (show l 45=k from(o rfl).1 (zk rfl q)) (z.mono f) (zb (show l 46=(vi a) from(y rfl).1 (zk rfl q)) (am (zk B q)).1) (zm (am (zk B q))));rintro l bm f p ⟨o,y,_⟩
 exact zx (Gj:=true) (Bj:= !(ix (ix d a) (ix b a))) rfl rfl rfl (uj (y rfl)) rfl (fun B q=>uf (z8f (i:=a.toNat) (j:=1) ty3 (z.mono f) rfl rfl ((o rfl).1 (zk rfl q)) (zm (am (zk B q)))) (fun _ _ h=>qh.1 h));rintro l bn f p ⟨o,y,d2,_⟩
 exact zx (Gj:=true) (Bj:= !(ix (ix d a) (ix b a))) rfl rfl rfl (uj (d2 rfl)) rfl (fun B q=>fw (i:=(ix b a).toNat) zvq (show l 44=s from(o rfl).1 (zk rfl q)) ((Q.mono (C.trans E)).mono f) (zb (show l 48=(vi (ix b a)) from(y rfl).1 (zk rfl q)) (an (zk B q)).1) (zm (an (zk B q))))
 rintro l bo f p ⟨o,y,_⟩;exact zx (Gj:=true) (Bj:= !(ix (ix d a) (ix b a))) rfl rfl rfl (uj (y rfl)) rfl (fun B q=>z8f (i:=(ix b a).toNat) (j:=0) zya ((Q.mono (C.trans E)).mono f) rfl rfl ((o rfl).1 (zk rfl q)) (zm (an (zk B q))));rintro l bp f p ⟨o,_⟩
 exact zx (Gj:=true) (Bj:= !(ix (ix d a) (ix b a))) rfl rfl rfl (uj (o rfl)) rfl (fun B q=>zw (zf (p 6 rfl)));rintro l bq f p ⟨o,y,d2,_⟩
 exact zx (Gj:=true) (Bj:= !(ix (ix d a) (ix b a))) rfl rfl rfl (uj (d2 rfl)) rfl (fun B q=>ou (i:=a.toNat) z7k rfl (jd ((o rfl).1 (zk rfl q))) (zb (show l 51=(vi a) from(y rfl).1 (zk rfl q)) (aw (zk B q)).1) (zm (aw (zk B q))));rintro l br f p ⟨o,y,_⟩
 exact zx (Gj:=true) (Bj:= !(ix (ix d a) (ix b a))) rfl rfl rfl (uj (y rfl)) rfl (fun B q=>uf (ul ty4 rfl ((o rfl).1 (zk rfl q))) (fun _ _ h=>yl.1 h));rintro l bs f p ⟨o,y,_⟩
 exact zx (Gj:=true) (Bj:= !(ix (ix d a) (ix b a))) rfl rfl rfl (uj (y rfl)) rfl (fun B q=>zw (p9 (show l 53=(.bool (ix (ix d (ix b a)) a)) from(o rfl).1 (zk rfl q))));rintro l bt f p ⟨o,y,_⟩
 exact za rfl rfl rfl (zw (l7 (o rfl) rfl (fun hb=>(show l 54=(.bool (!(ix (ix d (ix b a)) a))) from(y rfl).1 (zk rfl hb)))));intro cB a6 cC a7 cD bv bw bx bz ay bA az bB bC bD aA bE bF bG aB bH aC bI aD bJ bK bL bM bN bO bP bQ bR bS bT bU bV bW bX bY bZ b0 b1 b2 b3 b4 b5 aE
 obtain rfl:=Eq.symm a6;obtain rfl:=Eq.symm a7;obtain rfl:=Eq.symm ay;obtain rfl:=Eq.symm az;obtain rfl:=Eq.symm aA;obtain rfl:=Eq.symm aB;obtain rfl:=Eq.symm aC;obtain rfl:=Eq.symm aD;obtain rfl:=Eq.symm aE;refine z8 (qa rfl n (fun n=>?_) (fun n=>?_));refine qc (q9 (zq (zl k (zl (vi a) ?_))))
 obtain⟨K,n⟩:=ze n;refine kg (i:=a.toNat) rfl bu rfl (z.mono t) (zb rfl K.1) (zm K) fun b6 aF=>?_;refine ig (i:=a.toNat) (j:=1) rfl ty3 (z.mono t) rfl rfl aF (zm K) fun b7 aG=>?_;obtain rfl:=qh.1 aG;obtain⟨aH,n⟩:=ze n;refine zi (jg rfl rfl aH) ?_
 obtain⟨L,n⟩:=ze n;refine kg (i:=a.toNat) rfl bu rfl (z.mono t) (zb rfl L.1) (zm L) fun b8 aI=>?_;refine gm (i:=a.toNat) (j:=1) ty3 (z.mono t) rfl rfl aI (zm L) rfl (qh.2 rfl) fun aJ aK=>?_;refine z8 ?_
 exact⟨dkt,t,jm,(V,(up b a ((ix b a)+1)),aJ),Nat.lt_succ_self _,trivial,prm,n,aK,(Z.trans List.length_set.symm),trivial⟩;refine jk ?_;exact⟨dkt,(E.trans t),jm,(b,a4),trivial,prm,(Option.some.inj n).symm,(z.mono t),Z,trivial⟩;rintro⟨I,a8⟩ b9 cE aL ⟨rfl,a9,aM,_⟩;refine zq ?_
 obtain⟨aN,e⟩:=ze e;refine zi (jg rfl rfl aN) (zl (vi (a+1)) (z8 ?_));exact⟨dkt,aL,jm,(U,a+1,I,a8),Nat.lt_succ_self _,⟨rfl,trivial⟩,prm,e,a9,aM,trivial⟩;refine jk ?_;exact⟨dkt,C,jm,(aj,ar),trivial,⟨[P],(List.Perm.refl _)⟩,(Option.some.inj e).symm,au,Y,trivial⟩
 rintro⟨H,cF⟩ ca cG aO ⟨rfl,ba,aP,_⟩;refine zt (zl k (zn k (z8 (mg (i:=0) rfl ba fun aQ ao aR=>?_))));have aS:VRep (tSl true (zz .i64)) aQ k H:=(z0l aR aP);refine qw ?_;obtain rfl:=Option.some.inj w
 refine qg (D:=[]) (J:=[]) (rs:=[.tmp 2]) (vs:=[k]) (((ac.trans X).trans aO).trans ao) rfl rfl ⟨rfl,trivial⟩ ?_;exact⟨rfl,aS⟩
theorem q0v:Enters prog 36:=enters_of func36 rfl (by kernel_rfl)
theorem z97{N:Nat}{R:RH}{s:(List Int)}{a:Value}(b:VRep (tSl false (zz .i64)) R a s){r:(List Int)}(c:z1n N s=some r):CallP prog 37 #[a] R (fun v R'=>VRep (tSl true (zz .i64)) R' v r):=by
 refine qo (args:=[a]) func37 rfl rfl fun A=>?_;rw [z1n] at c;refine zt (zn vs0 (j5 (zl a (zl a (zi (qz rfl underlying36 rfl (jd b)) (zl a (zi (qz rfl underlying36 rfl (jd b)) ?_)))))));obtain⟨d,c⟩:=ze c
 refine zcs (v:=a) (lo:=(0:Int).toNat) (hi:=(↑s.length:Int).toNat) (mx:=(↑s.length:Int).toNat) rfl bu rfl (jd b) (.inl ⟨rfl,rfl⟩) (.inr ⟨_,congrArg some (zb rfl (zgj d))⟩) (.inr ⟨_,congrArg some (zb rfl (zgj d))⟩) (zgf d) (z7q d) (Nat.le_refl _) (Nat.le_trans (z7q d) (zs3 (jd b))) (X':=(cut s 0 (↑s.length:Int))) rfl fun f g e=>?_
 have h:VRep (tSl true (zz .i64)) R f (cut s 0 (↑s.length:Int)):=z0l g (e.trans (zqy d).symm);refine zn f (z8 (qw ?_));obtain rfl:=Option.some.inj c;refine qg (D:=[]) (J:=[]) (rs:=[.tmp 2]) (vs:=[f]) (RH.le.refl _) rfl rfl ⟨rfl,trivial⟩ ?_;exact⟨rfl,h⟩
theorem q15:Enters prog 37:=enters_of func37 rfl (by kernel_rfl)
theorem zdy{N:Nat}{R:RH}{s:(List (List Int))}{a:Value}(b:VRep (tSl false (tSl true (zz .i64))) R a s){r:(List (List Int))}(c:z6n N s=some r):CallP prog 38 #[a] R (fun v R'=>VRep (tSl true (tSl true (zz .i64))) R' v r):=by
 refine qo (args:=[a]) func38 rfl rfl fun A=>?_;rw [z6n] at c;refine zt (zn vs0 (j5 (zl a (zl a (zi (qz rfl underlying30 rfl (jd b)) (zl a (zi (qz rfl underlying30 rfl (jd b)) ?_)))))));obtain⟨d,c⟩:=ze c
 refine zcs (v:=a) (lo:=(0:Int).toNat) (hi:=(↑s.length:Int).toNat) (mx:=(↑s.length:Int).toNat) rfl z7i rfl (jd b) (.inl ⟨rfl,rfl⟩) (.inr ⟨_,congrArg some (zb rfl (zgj d))⟩) (.inr ⟨_,congrArg some (zb rfl (zgj d))⟩) (zgf d) (z7q d) (Nat.le_refl _) (Nat.le_trans (z7q d) (zs3 (jd b))) (X':=(cut s 0 (↑s.length:Int))) rfl fun f g e=>?_
 have h:VRep (tSl true (tSl true (zz .i64))) R f (cut s 0 (↑s.length:Int)):=z0l g (e.trans (zqy d).symm);refine zn f (z8 (qw ?_));obtain rfl:=Option.some.inj c;refine qg (D:=[]) (J:=[]) (rs:=[.tmp 2]) (vs:=[f]) (RH.le.refl _) rfl rfl ⟨rfl,trivial⟩ ?_;exact⟨rfl,h⟩
theorem q3k:Enters prog 38:=enters_of func38 rfl (by kernel_rfl)
theorem zdc{N:Nat}{R:RH}{m:Mach}{S:Value}(p:VRep (jf false false) R S m){r:(List (List Int))×Int}(d:z96 N m=some r):CallP prog 13 #[S] R (fun v R'=> ∃ u0,v= .tuple #[u0,(vi r.2)]∧VRep (tSl true (tSl true (zz .i64))) R' u0 r.1):=by
 refine qo (args:=[S]) func13 rfl rfl fun A=>?_;rw [z96] at d;refine zt (vo (T:=(jf false false)) rfl rfl rfl p fun v1 R3 o h5 h2=>?_);refine zn vs0 (zn (vi 0) (z8 (zy (zt (zi (jo z0z rfl rfl h5 (p.mono o)) ?_)))));obtain⟨y6,c7,d⟩:=zu d
 refine jl rfl zvp rfl (z4k (p.mono o) c7) fun v8 bh j h9=>?_;obtain rfl:=h9;refine zn (vi y6) (j5 (zl (vi y6) (zi (tu rfl rfl) (z8 (qa rfl d (fun d=>?_) (fun d=>?_))))));refine zt (zl (vi y6) (zn vs0 (zn (vi y6) (z8 (qw ?_)))));obtain rfl:=Option.some.inj d
 refine qg (D:=[]) (J:=[]) (rs:=[.tmp 2,.tmp 3]) (vs:=[vs0,(vi y6)]) (o.trans j) rfl rfl ⟨rfl,rfl,trivial⟩ ?_;exact⟨rfl,⟨vs0,rfl,l8⟩⟩;refine qc (zt (zi (jo z0z rfl rfl (h5.mono j) (p.mono (o.trans j))) ?_));obtain⟨k,aL,d⟩:=zu d
 refine jl rfl q0v rfl (zda (p.mono (o.trans j)) aL) fun U bj ah E=>?_;refine zn U (j5 (zn vs0 (z8 ?_)));obtain⟨q,a,d⟩:=zu d
 refine jb (γ:=(List (List Int))×Value×Frag) (rs [6,12,19,50]) (fun g=>[(6,g.2.1)]) (fun g=>[g.2.2]++A) (fun g R=>q=g.1∧ORep (tSl true (zz .i64)) R g.2.2 g.2.1 g.1∧True) ?_ ?_;refine zt (zl U (zi (qz rfl underlying36 rfl (jd E)) (zl (vi 0) (z8 (q9 (z5j ?_))))))
 refine kv (γ:=Nat×(List (List Int))×Int×Value×Frag) (rs [6,12,21,50]) (fun g=>[(6,g.2.2.2.1),(21,(vi g.2.2.1))]) (fun g=>[g.2.2.2.2]++A) (fun g R=>z3j N k g.1 g.2.1 g.2.2.1=some q∧ORep (tSl true (zz .i64)) R g.2.2.2.2 g.2.2.2.1 g.2.1∧True) (fun g=>g.1) (N,[],0,vs0,emp) prm ⟨a,(z1w (T:=(tSl true (zz .i64)))),trivial⟩ ?_
 clear a;rintro⟨F,s,f,V,t⟩ a8 bk l ⟨a,W,_⟩;rcases F with _|F;exact qy a;replace a:z3j N k (F+1) s f=some q:=a;rw [z3j] at a;refine zt (zi (jh rfl rfl) (z8 (zy (qa rfl a (fun a=>?_) (fun a=>?_)))));refine qc ?_;obtain⟨Z,e,a⟩:=zu a
 refine jb (γ:=(List (List Int))×Value×Frag) (rs [6,12,23,49]) (fun g=>[(6,g.2.1)]) (fun g=>[g.2.2]++A) (fun g R=>Z=g.1∧ORep (tSl true (zz .i64)) R g.2.2 g.2.1 g.1∧True) ?_ ?_;refine q9 (zt (zl (vi f) ?_));obtain⟨ai,e⟩:=ze e
 refine yj (i:=f.toNat) rfl bu rfl (jd (E.mono l)) (zb rfl ai.1) (zm ai) fun bl aM=>?_;refine j4 rfl ty3 rfl aM fun bm aN=>?_;obtain rfl:=qh.1 aN
 refine zn (vi f) (zn (vi (ix k f)) (z8 (zy (zt (zl (vi (ix k f)) (zl (vi f) (zi (tu rfl rfl) (z8 (qa rfl e (fun e=>?_) (fun e=>?_))))))))));refine jk ?_;exact⟨dkt,(RH.le.refl _),jm,(s,V,t),⟨rfl,trivial⟩,prm,(Option.some.inj e).symm,W,trivial⟩
 refine qc (zt (zn vs0 (z8 ?_)));obtain⟨u,b,e⟩:=zu e;refine jb (γ:=(List Int)×Value×Frag) (rs [9,12,29,44]) (fun g=>[(9,g.2.1)]) (fun g=>[t,g.2.2]++A) (fun g R=>u=g.1∧ORep (zz .i64) R g.2.2 g.2.1 g.1∧True) ?_ ?_
 refine zt (zl U (zi (qz rfl underlying36 rfl (jd (E.mono l))) (zl (vi 0) (z8 (q9 (z5j ?_))))))
 refine kv (γ:=Nat×(List Int)×Int×Value×Frag) (rs [9,12,31,44]) (fun g=>[(9,g.2.2.2.1),(31,(vi g.2.2.1))]) (fun g=>[t,g.2.2.2.2]++A) (fun g R=>z3o N k f g.1 g.2.1 g.2.2.1=some u∧ORep (zz .i64) R g.2.2.2.2 g.2.2.2.1 g.2.1∧True) (fun g=>g.1) (N,[],0,vs0,emp) ⟨[],(pk 1 rfl (pk 0 rfl (List.Perm.refl _)))⟩ ⟨b,(z1w (T:=(zz .i64))),trivial⟩ ?_
 clear b;rintro⟨G,w,c,aa,aj⟩ bn bo I ⟨b,ab,_⟩;rcases G with _|G;exact qy b;replace b:z3o N k f (G+1) w c=some u:=b;rw [z3o] at b;refine zt (zi (jh rfl rfl) (z8 (zy (qa rfl b (fun b=>?_) (fun b=>?_)))));refine qc ?_;obtain⟨ac,h,b⟩:=zu b
 refine jb (γ:=(List Int)×Value×Frag) (rs [9,12,33,43]) (fun g=>[(9,g.2.1)]) (fun g=>[t,g.2.2]++A) (fun g R=>ac=g.1∧ORep (zz .i64) R g.2.2 g.2.1 g.1∧True) ?_ ?_;refine q9 (zt (zl (vi c) ?_));obtain⟨ak,h⟩:=ze h
 refine yj (i:=c.toNat) rfl bu rfl (jd (E.mono (l.trans I))) (zb rfl ak.1) (zm ak) fun bp aO=>?_;refine j4 rfl ty3 rfl aO fun br aP=>?_;obtain rfl:=qh.1 aP
 refine zn (vi c) (zn (vi (ix k c)) (j5 (zl (vi (ix k c)) (zl (vi f) (zi (xe rfl rfl) (z8 (qa rfl h (fun h=>?_) (fun h=>?_))))))))
 refine zq (zl aa (zl (vi c) (bq (T:=(zz .i64)) (X:=([c]:List Int)) (ps:=[(0,(vi c))]) (css:=[[(vi c)]]) rfl underlying36 zo3 rfl rfl (ko ⟨rfl,trivial⟩) rfl rfl (by decide) fun aQ bs ad aR=>?_)));refine uk (i:=0) rfl aR fun aS K aT=>?_
 have aU:VRep (tSl true (zz .i64)) aS aQ ([c]:List Int):=(z0l aT ad);obtain⟨al,h⟩:=ze h;refine pz (i:=1) (X:=w) (Y:=([c]:List Int)) rfl underlying36 zo3 rfl rfl rfl (ab.mono K) (jd (Sub.v (B:=(tSl false (zz .i64))) (uh Sub.refl (fun _=>rfl)) aU)) al.1 al.2 fun am aV aW=>?_;refine zn am (z8 ?_)
 exact⟨dkt,K,jm,((w++([c]:List Int)),am,aV),⟨rfl,trivial⟩,prm,(Option.some.inj h).symm,aW,trivial⟩;refine qc ?_;exact⟨dkt,(RH.le.refl _),jm,(w,aa,aj),⟨rfl,trivial⟩,prm,(Option.some.inj h).symm,ab,trivial⟩;rintro⟨ac,aX,aY⟩ bt bv an ⟨rfl,aZ,_⟩;refine zq ?_;obtain⟨a0,b⟩:=ze b
 refine zi (jg rfl rfl a0) (zl (vi (c+1)) (z8 ?_));exact⟨dkt,an,jm,(G,ac,c+1,aX,aY),Nat.lt_succ_self _,⟨rfl,rfl,trivial⟩,prm,b,aZ,trivial⟩;refine jk ?_;exact⟨dkt,I,jm,(w,aa,aj),⟨rfl,trivial⟩,prm,(Option.some.inj b).symm,ab,trivial⟩;rintro⟨u,ao,bw⟩ bx bz L ⟨rfl,a1,_⟩
 refine zq (zl V (zl ao (uk (i:=1) rfl a1 fun ap x aq=>?_)));have ar:VRep (tSl false (zz .i64)) ap ao u:=(z5z aq);obtain⟨n,au,e⟩:=zu e;refine jl rfl q15 rfl (z97 ar au) fun M a9 y O=>?_
 refine bq (T:=(tSl true (zz .i64))) (X:=([n]:List (List Int))) (ps:=[(0,M)]) (css:=[[M]]) rfl underlying30 zp1 rfl (by simp only [List.map_cons,List.map_nil,z13 O];rfl) (ko ⟨(u7 rfl O),trivial⟩) rfl rfl (by decide) fun av ba H aw=>?_;refine uk (i:=0) rfl aw fun ax z ay=>?_
 have az:VRep (tSl true (tSl true (zz .i64))) ax av ([n]:List (List Int)):=(z0l ay H);obtain⟨P,e⟩:=ze e
 refine pz (i:=0) (X:=s) (Y:=([n]:List (List Int))) rfl underlying30 zp1 rfl rfl rfl (W.mono (((L.trans x).trans y).trans z)) (jd (Sub.v (B:=(tSl false (tSl true (zz .i64)))) (uh Sub.refl (fun _=>rfl)) az)) P.1 P.2 fun Q aA aB=>?_;refine zn Q (z8 ?_)
 exact⟨dkt,(((L.trans x).trans y).trans z),jm,((s++([n]:List (List Int))),Q,aA),⟨rfl,trivial⟩,prm,(Option.some.inj e).symm,aB,trivial⟩;rintro⟨Z,a2,a3⟩ bb bA aC ⟨rfl,a4,_⟩;refine zq ?_;obtain⟨aD,a⟩:=ze a;refine zi (jg rfl rfl aD) (zl (vi (f+1)) (z8 ?_))
 exact⟨dkt,aC,jm,(F,Z,f+1,a2,a3),Nat.lt_succ_self _,⟨rfl,rfl,trivial⟩,prm,a,a4,trivial⟩;refine jk ?_;exact⟨dkt,l,jm,(s,V,t),⟨rfl,trivial⟩,prm,(Option.some.inj a).symm,W,trivial⟩;rintro⟨q,aE,bB⟩ bc bC aF ⟨rfl,a5,_⟩;refine zt (zl aE (uk (i:=0) rfl a5 fun aG ae aH=>?_))
 have aI:VRep (tSl false (tSl true (zz .i64))) aG aE q:=(z5z aH);obtain⟨be,aJ,d⟩:=zu d;refine jl rfl q3k rfl (zdy aI aJ) fun C bf af aK=>?_;refine zn C (zn (vi 0) (z8 (qw ?_)));obtain rfl:=Option.some.inj d
 refine qg (D:=[]) (J:=[]) (rs:=[.tmp 2,.tmp 3]) (vs:=[C,(vi 0)]) (((((o.trans j).trans ah).trans aF).trans ae).trans af) rfl rfl ⟨rfl,rfl,trivial⟩ ?_;exact⟨rfl,⟨C,rfl,aK⟩⟩
end GV
end Go.Proofs.Ytdhccodneoebpaa
