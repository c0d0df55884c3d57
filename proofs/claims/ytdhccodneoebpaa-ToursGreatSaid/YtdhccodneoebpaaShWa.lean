import Derived.Test.YtdhccodneoebpaaShPlain
import Derived.Test.YtdhccodneoebpaaRows
set_option linter.unusedVariables false
set_option linter.unusedSimpArgs false
set_option linter.unusedSectionVars false
namespace Go.Proofs.Ytdhccodneoebpaa
namespace GV
open _root_.Go.Proofs.Try
open Go.IntWalk
set_option maxRecDepth 100000
set_option maxHeartbeats 20000000
theorem zg0: ∀ w,∃ z,(zeroValue 27).run prog w= .ok z w∧z.cells=([.int .i64 0,.int .i64 0,.slice none 0 0]:List Value).toArray:=fun w=>⟨(.agg #[(vi 0),(vi 0),vs0]),by kernel_rfl,rfl⟩
theorem z3d: ∀ w,(sizeOf 27).run prog w= .ok 3 w:=fun w=>by kernel_rfl
theorem z3q:FieldOk prog 27 0 0:=by
 obtain⟨i,hi,a⟩: ∃ i,prog.info? 3=some i∧i.size=1:=jf (by kernel_rfl);exact uo underlying27 rfl rfl hi (by rw [a];rfl)
theorem ag3: ∀ w,(isAgg 3).run prog w= .ok false w:=fun w=>by kernel_rfl
theorem ty4:TyOk prog 4 ww:=by
 obtain⟨i,hi,a⟩: ∃ i,prog.info? 4=some i∧i.size=1:=jf (by kernel_rfl);exact ib underlying4 hi rfl a
theorem ze1:ZeroOk prog 53 kEdge (⟨(0:Int),(0:Int)⟩:Edge) 16:=by
 obtain⟨i,zv,hi,a,c,d,f⟩:=z11 (P:=prog) (e:=53) (zv:=(.agg #[(vi 0),(vi 0)])) (k:=2) (b:=16) (by kernel_rfl);exact⟨i,zv,hi,a,c,d,fun R=>by subst f;exact⟨_,_,rfl,rfl,rfl⟩⟩
theorem zk0:FieldOk prog 27 1 1:=by
 obtain⟨i,hi,a⟩: ∃ i,prog.info? 3=some i∧i.size=1:=jf (by kernel_rfl);exact uo underlying27 rfl rfl hi (by rw [a];rfl)
theorem mixed:prog.follows .mixedOrders=true:=by kernel_rfl
theorem dx:FieldOk prog 27 2 2:=by
 obtain⟨i,hi,a⟩: ∃ i,prog.info? 25=some i∧i.size=1:=jf (by kernel_rfl);exact uo underlying27 rfl rfl hi (by rw [a];rfl)
theorem zke{a:Bool}:ZeroOk prog 54 (tSl a kEdge) ([]:List Edge) 24:=by
 obtain⟨i,zv,hi,c,d,f,g⟩:=z11 (P:=prog) (e:=54) (zv:=vs0) (k:=1) (b:=24) (by kernel_rfl);exact⟨i,zv,hi,c,d,f,fun R=>by subst g;exact(kw rfl z0o)⟩
theorem z7w: ∀ w,(isAgg 27).run prog w= .ok true w:=fun w=>by kernel_rfl
theorem z1i{a b:Bool}:TyOk prog 27 (jg a b):=by
 obtain⟨i,hi,c⟩: ∃ i,prog.info? 27=some i∧i.size=3:=jf (by kernel_rfl);exact ib underlying27 hi rfl c
theorem z4r{a b:Bool}:TyOk prog 25 (tSl a (tSl b kEdge)):=by
 obtain⟨i,hi,c⟩: ∃ i,prog.info? 25=some i∧i.size=1:=jf (by kernel_rfl);exact ib underlying25 hi rfl c
theorem zr4{a:Bool}:ZeroOk prog 36 (tSl a (zy .i64)) ([]:List Int) 24:=by
 obtain⟨i,zv,hi,c,d,f,g⟩:=z11 (P:=prog) (e:=36) (zv:=vs0) (k:=1) (b:=24) (by kernel_rfl);exact⟨i,zv,hi,c,d,f,fun R=>by subst g;exact(kw rfl z0o)⟩
theorem zo4:ZeroOk prog 4 ww false 1:=by
 obtain⟨i,zv,hi,a,c,d,f⟩:=z11 (P:=prog) (e:=4) (zv:=(.bool false)) (k:=1) (b:=1) (by kernel_rfl);exact⟨i,zv,hi,a,c,d,fun R=>by subst f;exact rfl⟩
theorem zo3:ZeroOk prog 3 (zy .i64) (0:Int) 8:=by
 obtain⟨i,zv,hi,a,c,d,f⟩:=z11 (P:=prog) (e:=3) (zv:=(vi 0)) (k:=1) (b:=8) (by kernel_rfl);exact⟨i,zv,hi,a,c,d,fun R=>by subst f;exact rfl⟩
theorem zta: ∀ w,∃ z,(zeroValue 53).run prog w= .ok z w∧z.cells=([.int .i64 0,.int .i64 0]:List Value).toArray:=fun w=>⟨(.agg #[(vi 0),(vi 0)]),by kernel_rfl,rfl⟩
theorem zh0: ∀ w,(sizeOf 53).run prog w= .ok 2 w:=fun w=>by kernel_rfl
theorem zk8{a:Bool}:TyOk prog 54 (tSl a kEdge):=by
 obtain⟨i,hi,b⟩: ∃ i,prog.info? 54=some i∧i.size=1:=jf (by kernel_rfl);exact ib underlying54 hi rfl b
theorem zmy{a:Bool}:SlOk prog 25 54 (tSl a kEdge):=⟨underlying25,zk8⟩
theorem zp7:TyOk prog 53 kEdge:=by
 obtain⟨i,hi,a⟩: ∃ i,prog.info? 53=some i∧i.size=2:=jf (by kernel_rfl);exact ib underlying53 hi rfl a
theorem zmj:SlOk prog 54 53 kEdge:=⟨underlying54,zp7⟩
theorem zzy: ∀ w,(isAgg 53).run prog w= .ok true w:=fun w=>by kernel_rfl
theorem ty3:TyOk prog 3 (zy .i64):=by
 obtain⟨i,hi,a⟩: ∃ i,prog.info? 3=some i∧i.size=1:=jf (by kernel_rfl);exact ib underlying3 hi rfl a
theorem dz:SlOk prog 36 3 (zy .i64):=⟨underlying36,ty3⟩
theorem z88:SlOk prog 88 4 ww:=⟨underlying88,ty4⟩
theorem z8b{a:Bool}:TyOk prog 36 (tSl a (zy .i64)):=by
 obtain⟨i,hi,b⟩: ∃ i,prog.info? 36=some i∧i.size=1:=jf (by kernel_rfl);exact ib underlying36 hi rfl b
theorem z8a{a:Bool}:SlOk prog 30 36 (tSl a (zy .i64)):=⟨underlying30,z8b⟩
theorem za6:FieldOk prog 53 0 0:=by
 obtain⟨i,hi,a⟩: ∃ i,prog.info? 3=some i∧i.size=1:=jf (by kernel_rfl);exact uo underlying53 rfl rfl hi (by rw [a];rfl)
theorem zr8:FieldOk prog 53 1 1:=by
 obtain⟨i,hi,a⟩: ∃ i,prog.info? 3=some i∧i.size=1:=jf (by kernel_rfl);exact uo underlying53 rfl rfl hi (by rw [a];rfl)
theorem z8d{N:Nat}{R:RH}{s:(List Edge)}{c:Value}(k:VRep (tSl false kEdge) R c s){f:Edge→Option Bool}{e:Value}(n:FOk1 prog R e kEdge ww f){r:Int}(b:oq N s f=some r):CallP prog 88 #[c,e] R (fun v R'=>v=(vi r)):=by
 refine qp (args:=[c,e]) func88 rfl rfl fun A=>?_;rw [oq] at b;refine zo (zm (vi 0) (z8 ?_));obtain⟨o,a,b⟩:=zu b;refine jb (γ:=Unit) (rs [4,19]) (fun g=>[]) (fun g=>[]++A) (fun g R=>o=Ex.go g∧True) ?_ ?_
 refine zo (zl c (zi (qx rfl underlying54 rfl (je k)) (zl (vi 0) (z8 (zz (ky (γ:=Nat×Int) (rs [4,6,8,19]) (fun g=>[(8,(vi g.2))]) (fun g=>[]++A) (fun g R=>um N s f g.1 g.2=some o∧True) (fun g=>g.1) (N,0) prm ⟨a,trivial⟩ ?_))))));clear a;rintro⟨m,d⟩ y H h ⟨a,_⟩
 rcases m with _|m;exact j6 a;replace a:um N s f (m+1) d=some o:=a;rw [um] at a;refine zo (zi (jk rfl rfl) (z8 (q9 (qa rfl a (fun a=>?_) (fun a=>?_)))))
 refine qc (q9 (zz (zo (zl (vi d) (zm (vi d) (j4 (zl e (zl c (zl (vi d) ?_)))))))));obtain⟨l,a⟩:=za a;refine yj (i:=d.toNat) rfl zmj rfl (je (k.mono h)) (zb rfl l.1) (zn l) fun z p=>?_;refine j3 rfl zp7 rfl p fun B q=>?_;obtain rfl:=z2t.1 q
 obtain⟨C,t,a⟩:=zu a;refine zvl rfl rfl rfl ((n.mono h) _ (RH.le.refl _) (ix s d) _ _ (z2t.2 rfl) t) fun E F j u=>?_;obtain rfl:=yl.1 u;refine z8 (qa rfl a (fun a=>?_) (fun a=>?_));refine zo (zl (vi d) (zm (vi d) (z8 (qw ?_))));replace b:=z3x a b;obtain rfl:=Option.some.inj b
 refine qh (D:=[]) (J:=[]) (rs:=[.tmp 4]) (vs:=[(vi d)]) (h.trans j) rfl rfl ⟨rfl,trivial⟩ ?_;exact⟨rfl,rfl⟩;refine qc (zt ?_);obtain⟨w,a⟩:=za a;refine zi (ji rfl rfl w) (zl (vi (d+1)) (z8 ?_));exact⟨dkt,j,jr,(m,d+1),Nat.lt_succ_self _,⟨rfl,trivial⟩,prm,a,trivial⟩;refine jm ?_
 exact⟨dkt,h,jr,(),trivial,prm,(Option.some.inj a).symm,trivial⟩;rintro I G K x ⟨rfl,_⟩;replace b:=z1n b;refine zo (zm (vi (-1)) (z8 (qw ?_)));obtain rfl:=Option.some.inj b;refine qh (D:=[]) (J:=[]) (rs:=[.tmp 4]) (vs:=[(vi (-1))]) x rfl rfl ⟨rfl,trivial⟩ ?_;exact⟨rfl,rfl⟩
theorem q61:Enters prog 88:=enters_of func88 rfl (by kernel_rfl)
theorem z7e{N:Nat}{R:RH}{s:(List Edge)}{a:Value}(d:VRep (tSl false kEdge) R a s){f:Edge→Option Bool}{b:Value}(e:FOk1 prog R b kEdge ww f){r:Bool}(c:nu N s f=some r):CallP prog 82 #[a,b] R (fun v R'=>v=(.bool r)):=by
 refine qp (args:=[a,b]) func82 rfl rfl fun A=>?_;rw [nu] at c;refine zo (zm (.bool false) (j4 (zl a (zl b ?_))));obtain⟨h,i,c⟩:=zu c;refine jl rfl q61 rfl (z8d d e i) fun k l g j=>?_;obtain rfl:=j
 refine zi (z7f rfl rfl) (zm (.bool (decide (0≤h))) (z8 (qw ?_)));obtain rfl:=Option.some.inj c;refine qh (D:=[]) (J:=[]) (rs:=[.tmp 4]) (vs:=[(.bool (decide (0≤h)))]) g rfl rfl ⟨rfl,trivial⟩ ?_;exact⟨rfl,rfl⟩
theorem q5g:Enters prog 82:=enters_of func82 rfl (by kernel_rfl)
theorem zgx{N:Nat}{R:RH}  {r:Edge} (a:za1 N  =some r):CallP prog 89 #[] R (fun v R'=>v=(z3h r)):=by
 refine qp (args:=[]) func89 rfl rfl fun A=>?_;rw [za1] at a;refine zo (jc rfl zta fun b=>?_)
 refine j4 (zi (jy (ps:=[(0,(vi (-1))),(1,(vi (-1)))]) (v:=(.agg #[(vi (-1)),(vi (-1))])) rfl (fun w=>by kernel_rfl)) (ql (i:=0) (vs:=[(vi (-1)),(vi (-1))]) zh0 rfl rfl rfl rfl rfl rfl (qb rfl (qb rfl qy)) ?_));refine z8 (qw ?_);obtain rfl:=Option.some.inj a
 refine qh (D:=[]) (J:=[box b [(vi (-1)),(vi (-1))] 53]) (rs:=[.cell 0 53]) (vs:=[(.agg #[(vi (-1)),(vi (-1))])]) (RH.le.refl _) rfl rfl ⟨⟨_,rfl,fun w c=>z3i (i:=0) c rfl rfl zzy zh0 rfl rfl⟩,trivial⟩ ?_;exact⟨rfl,rfl⟩
theorem q5r:Enters prog 89:=enters_of func89 rfl (by kernel_rfl)
theorem q5a:zpl prog 53:=zlr (f0:=((prog.fieldsOf 53).toList.getD 0 default)) (f1:=((prog.fieldsOf 53).toList.getD 1 default)) (by kernel_rfl) (by kernel_rfl) (by kernel_rfl) (by kernel_rfl) (by kernel_rfl) (by kernel_rfl) (by kernel_rfl) (by kernel_rfl) (by kernel_rfl) (by kernel_rfl)
theorem zgy{N:Nat}{R:RH}{m:Mach}{p:Value}(w:VRep (jg false false) R p m){x:Edge}{r:Bool}(n:za7 N m x=some r):CallP prog 84 #[p,(z3h x)] R (fun v R'=>v=(.bool r)):=by
 refine qp (args:=[p,(z3h x)]) func84 rfl rfl fun A=>?_;rw [za7] at n;refine zo (y5 (T:=(jg false false)) rfl rfl rfl w fun v1 R3 y h5 K=>?_);refine z8e (T:=kEdge) rfl rfl (z2t.2 rfl) fun v6 R8 q t=>?_;refine zm (.bool false) (z8 (q9 ?_));obtain⟨b,z,n⟩:=zu n
 let B:=((decide (x.to=b.to∧x.out=b.out))||((((decide (0≤x.to))&&(decide (x.to<(↑m.rows.length:Int))))&&(decide (0≤x.out)))&&(decide (x.out<m.outputs))));let L:=((((decide (0≤x.to))&&(decide (x.to<(↑m.rows.length:Int))))&&(decide (0≤x.out)))&&(decide (x.out<m.outputs)))
 let o:=(((decide (0≤x.to))&&(decide (x.to<(↑m.rows.length:Int))))&&(decide (0≤x.out)));let k:=((decide (0≤x.to))&&(decide (x.to<(↑m.rows.length:Int))));let e:=(true&&((decide (x.to=b.to∧x.out=b.out))==false))
 refine ou 29 [] [phX (z3h x),phX (z3h b),phX (.bool (decide (x.to=b.to∧x.out=b.out))),phX (.bool (decide (x.to=b.to∧x.out=b.out))),phG e (phP (zy .i64) x.to),phG e (phX (vi x.to)),phG e (phX (.bool (decide (0≤x.to)))),phG e (phX (.bool (decide (0≤x.to)))),phG (e&&((decide (0≤x.to))==true)) (phP (zy .i64) x.to),phG (e&&((decide (0≤x.to))==true)) (phX (vi x.to)),phG (e&&((decide (0≤x.to))==true)) (phP (tSl false (tSl false kEdge)) m.rows),phG (e&&((decide (0≤x.to))==true)) (phR (tSl false (tSl false kEdge)) m.rows),phG (e&&((decide (0≤x.to))==true)) (phX (vi (↑m.rows.length:Int))),phG (e&&((decide (0≤x.to))==true)) (phX (.bool (decide (x.to<(↑m.rows.length:Int))))),phG e (phX (.bool k)),phG e (phX (.bool k)),phG (e&&(k==true)) (phP (zy .i64) x.out),phG (e&&(k==true)) (phX (vi x.out)),phG (e&&(k==true)) (phX (.bool (decide (0≤x.out)))),phG e (phX (.bool o)),phG e (phX (.bool o)),phG (e&&(o==true)) (phP (zy .i64) x.out),phG (e&&(o==true)) (phX (vi x.out)),phG (e&&(o==true)) (phP (zy .i64) m.outputs),phG (e&&(o==true)) (phX (vi m.outputs)),phG (e&&(o==true)) (phX (.bool (decide (x.out<m.outputs)))),phG e (phX (.bool L)),phX (.bool B),phX (.bool B)] mixed (by kernel_rfl) (ng ⟨zq,zq,zq,zq,(qz oh),(qz zq),(qz zq),(qz zq),(qz oh),(qz zq),(qz oh),(qz l9),(qz zq),(qz zq),(qz zq),(qz zq),(qz oh),(qz zq),(qz zq),(qz zq),(qz zq),(qz oh),(qz zq),(qz oh),(qz zq),(qz zq),(qz zq),zq,zq,trivial⟩) ⟨?_,?_,?_,?_,?_,?_,?_,?_,?_,?_,?_,?_,?_,?_,?_,?_,?_,?_,?_,?_,?_,?_,?_,?_,?_,?_,?_,?_,?_,trivial⟩ fun ai u=>?_
 intro l aj a g hd;exact ze rfl rfl rfl (uj (uw zp7 (g 3 rfl) (t.mono a)) (fun _ _ h=>z2t.1 h));intro l al a g hd;exact ze rfl rfl rfl (yh (vs:=[]) q5r rfl (zgx  z) (fun _ _ h=>h));rintro l am a g ⟨c,f,_⟩;exact ze rfl rfl rfl (zx (zoi q5a (c rfl) (f rfl)));rintro l an a g ⟨c,f,_⟩
 exact ze rfl rfl rfl (zx (zg (c rfl)));rintro l ao a g ⟨c,_⟩;exact zw (Gj:=true) (Bj:=decide (x.to=b.to∧x.out=b.out)) rfl rfl rfl (ul (c rfl)) rfl (fun i d=>r9 za6 zb4 (g 3 rfl) (t.mono a));rintro l ap a g ⟨c,f,_⟩
 exact zw (Gj:=true) (Bj:=decide (x.to=b.to∧x.out=b.out)) rfl rfl rfl (ul (f rfl)) rfl (fun i d=>uj (uw ty3 rfl ((c rfl).1 (zk rfl d))) (fun _ _ h=>qj.1 h));rintro l aq a g ⟨c,f,_⟩
 exact zw (Gj:=true) (Bj:=decide (x.to=b.to∧x.out=b.out)) rfl rfl rfl (ul (f rfl)) rfl (fun i d=>zx (z7f (show l 10=(vi x.to) from(c rfl).1 (zk rfl d)) rfl));rintro l ar a g ⟨c,f,j,_⟩
 exact zw (Gj:=true) (Bj:=decide (x.to=b.to∧x.out=b.out)) rfl rfl rfl (ul (f rfl)) rfl (fun i d=>zx (zg (show l 11=(.bool (decide (0≤x.to))) from(c rfl).1 (zk rfl d))));rintro l au a g ⟨c,_⟩;exact zw (Gj:=e) (Bj:=decide (0≤x.to)) rfl rfl rfl (c rfl) rfl (fun i d=>r9 za6 zb4 (g 3 rfl) (t.mono a))
 rintro l av a g ⟨c,f,_⟩;exact zw (Gj:=e) (Bj:=decide (0≤x.to)) rfl rfl rfl (f rfl) rfl (fun i d=>uj (uw ty3 rfl ((c rfl).1 (zk i d))) (fun _ _ h=>qj.1 h));rintro l M a g ⟨c,_⟩;exact zw (Gj:=e) (Bj:=decide (0≤x.to)) rfl rfl rfl (c rfl) rfl (fun i d=>r9 dx vw (g 2 rfl) ((K.mono q).mono a))
 rintro l O a g ⟨c,f,_⟩;exact zw (Gj:=e) (Bj:=decide (0≤x.to)) rfl rfl rfl (f rfl) rfl (fun i d=>uw z4r rfl ((c rfl).1 (zk i d)));rintro l P a g ⟨c,f,_⟩;exact zw (Gj:=e) (Bj:=decide (0≤x.to)) rfl rfl rfl (f rfl) rfl (fun i d=>zx (qx rfl underlying25 rfl (je ((c rfl).1 (zk i d)))))
 rintro l Q a g ⟨c,f,j,_⟩;exact zw (Gj:=e) (Bj:=decide (0≤x.to)) rfl rfl rfl (j rfl) rfl (fun i d=>zx (jk (show l 14=(vi x.to) from(c rfl).1 (zk i d)) (show l 17=(vi (↑m.rows.length:Int)) from(f rfl).1 (zk i d))));rintro l S a g ⟨c,f,j,_⟩
 exact zw (Gj:=true) (Bj:=decide (x.to=b.to∧x.out=b.out)) rfl rfl rfl (ul (j rfl)) rfl (fun i d=>zx (uk (show l 12=(.bool (decide (0≤x.to))) from(c rfl).1 (zk rfl d)) (fun s=>(show l 18=(.bool (decide (x.to<(↑m.rows.length:Int)))) from(f rfl).1 (zk (zk rfl d) s))) rfl));rintro l U a g ⟨c,f,j,_⟩
 exact zw (Gj:=true) (Bj:=decide (x.to=b.to∧x.out=b.out)) rfl rfl rfl (ul (j rfl)) rfl (fun i d=>zx (zg (show l 19=(.bool k) from(c rfl).1 (zk rfl d))));rintro l V a g ⟨c,_⟩
 exact zw (Gj:=e) (Bj:=(decide (0≤x.to))&&(decide (x.to<(↑m.rows.length:Int)))) rfl rfl rfl (c rfl) rfl (fun i d=>r9 zr8 zo6 (g 3 rfl) (t.mono a));rintro l W a g ⟨c,f,_⟩
 exact zw (Gj:=e) (Bj:=(decide (0≤x.to))&&(decide (x.to<(↑m.rows.length:Int)))) rfl rfl rfl (f rfl) rfl (fun i d=>uj (uw ty3 rfl ((c rfl).1 (zk i d))) (fun _ _ h=>qj.1 h));rintro l X a g ⟨c,f,_⟩
 exact zw (Gj:=e) (Bj:=(decide (0≤x.to))&&(decide (x.to<(↑m.rows.length:Int)))) rfl rfl rfl (f rfl) rfl (fun i d=>zx (z7f (show l 22=(vi x.out) from(c rfl).1 (zk i d)) rfl));rintro l Y a g ⟨c,f,j,_⟩
 exact zw (Gj:=true) (Bj:=decide (x.to=b.to∧x.out=b.out)) rfl rfl rfl (ul (j rfl)) rfl (fun i d=>zx (uk (show l 20=(.bool k) from(c rfl).1 (zk rfl d)) (fun s=>(show l 23=(.bool (decide (0≤x.out))) from(f rfl).1 (zk (zk rfl d) s))) rfl));rintro l Z a g ⟨c,f,j,_⟩
 exact zw (Gj:=true) (Bj:=decide (x.to=b.to∧x.out=b.out)) rfl rfl rfl (ul (j rfl)) rfl (fun i d=>zx (zg (show l 24=(.bool o) from(c rfl).1 (zk rfl d))));rintro l aa a g ⟨c,_⟩;exact zw (Gj:=e) (Bj:=k&&(decide (0≤x.out))) rfl rfl rfl (c rfl) rfl (fun i d=>r9 zr8 zo6 (g 3 rfl) (t.mono a))
 rintro l ab a g ⟨c,f,_⟩;exact zw (Gj:=e) (Bj:=k&&(decide (0≤x.out))) rfl rfl rfl (f rfl) rfl (fun i d=>uj (uw ty3 rfl ((c rfl).1 (zk i d))) (fun _ _ h=>qj.1 h));rintro l ac a g ⟨c,_⟩
 exact zw (Gj:=e) (Bj:=k&&(decide (0≤x.out))) rfl rfl rfl (c rfl) rfl (fun i d=>r9 zk0 zeh (g 2 rfl) ((K.mono q).mono a));rintro l ad a g ⟨c,f,_⟩;exact zw (Gj:=e) (Bj:=k&&(decide (0≤x.out))) rfl rfl rfl (f rfl) rfl (fun i d=>uj (uw ty3 rfl ((c rfl).1 (zk i d))) (fun _ _ h=>qj.1 h))
 rintro l ae a g ⟨c,f,j,_⟩;exact zw (Gj:=e) (Bj:=k&&(decide (0≤x.out))) rfl rfl rfl (j rfl) rfl (fun i d=>zx (jk (show l 27=(vi x.out) from(c rfl).1 (zk i d)) (show l 29=(vi m.outputs) from(f rfl).1 (zk i d))));rintro l af a g ⟨c,f,j,_⟩
 exact zw (Gj:=true) (Bj:=decide (x.to=b.to∧x.out=b.out)) rfl rfl rfl (ul (j rfl)) rfl (fun i d=>zx (uk (show l 25=(.bool o) from(c rfl).1 (zk rfl d)) (fun s=>(show l 30=(.bool (decide (x.out<m.outputs))) from(f rfl).1 (zk (zk rfl d) s))) rfl));rintro l ag a g ⟨c,f,_⟩
 exact ze rfl rfl rfl (zx (z2k (c rfl) rfl (fun s=>(show l 31=(.bool L) from(f rfl).1 (zk rfl s)))));rintro l ah a g ⟨c,f,j,d3,d4,d5,d6,d7,d8,d9,aw,ax,ay,az,aA,aB,aC,aD,aE,aF,aG,aH,aI,aJ,aK,aL,aM,aN,aO,aP,_⟩;exact ze rfl rfl rfl (zx (iq (c rfl)))
 intro aQ C aR E aS F aT G aU aV aW aX aY aZ a0 a1 a2 a3 a4 a5 a6 a7 a8 a9 ba bb bc be bf bg bh bi bj bk bl bm bn bo bp bq br bs bt bu bv bw bx bz bA bB bC bD bE bF bG H bH I;obtain rfl:=Eq.symm C;obtain rfl:=Eq.symm E;obtain rfl:=Eq.symm F;obtain rfl:=Eq.symm G;obtain rfl:=Eq.symm H;obtain rfl:=Eq.symm I
 refine z8 (qw ?_);obtain rfl:=Option.some.inj n;refine qh (D:=[]) (J:=[]) (rs:=[.tmp 4]) (vs:=[(.bool B)]) ((y.trans q).trans u) rfl rfl ⟨rfl,trivial⟩ ?_;exact⟨rfl,rfl⟩
theorem q4x:Enters prog 84:=enters_of func84 rfl (by kernel_rfl)
theorem zdy{N:Nat}{R:RH}{x:Edge}{p0_:Mach}{a:Value}(c:PRep (jg false false) R a p0_){r:Bool}(b:z6z N x p0_=some r):CallP prog 83 #[(z3h x),a] R (fun v R'=>v=(.bool r)):=by
 refine qp (args:=[(z3h x),a]) func83 rfl rfl fun A=>?_;rw [z6z] at b;refine zo (z8e (T:=kEdge) rfl rfl (z2t.2 rfl) fun n o d i=>?_);refine zm (.bool false) (j4 (j3 rfl z1i rfl (c.mono d) fun p j=>?_));refine j3 rfl zp7 rfl i fun q k=>?_;obtain rfl:=z2t.1 k
 obtain⟨h,f,b⟩:=zu b;refine jl rfl q4x rfl (zgy j f) fun l m e g=>?_;obtain rfl:=g;refine zi (tu rfl) (zm (.bool (!h)) (z8 (qw ?_)));obtain rfl:=Option.some.inj b;refine qh (D:=[]) (J:=[]) (rs:=[.tmp 3]) (vs:=[(.bool (!h))]) (d.trans e) rfl rfl ⟨rfl,trivial⟩ ?_;exact⟨rfl,rfl⟩
theorem q5f:Enters prog 83:=enters_of func83 rfl (by kernel_rfl)
theorem zfr{N:Nat}{R:RH}{m:Mach}{q:Value}(F:VRep (jg false false) R q m){r:Int}(b:z2o N m=some r):CallP prog 75 #[q] R (fun v R'=>v=(vi r)):=by
 refine qp (args:=[q]) func75 rfl rfl fun A=>?_;rw [z2o] at b;refine zo (y5 (T:=(jg false false)) rfl rfl rfl F fun E R3 k h5 l=>?_);refine zm (vi 0) (z8 (q9 (zo (zqp rfl (ak z3q z1s rfl l) fun v6 h7=>?_))))
 refine jd rfl (pg (u6 ty3 rfl h7)) (jd rfl (z08 rfl rfl) (jd (v:=(.bool (decide (16<m.inputs)))) rfl (zg rfl) (j5 rfl rfl rfl rfl (fun c=>ak zk0 zeh rfl l) fun an G=>?_)));refine j5 rfl rfl rfl rfl (fun c=>qi (pg (u6 ty3 rfl (G.1 (zk rfl c))))) fun ao H=>?_
 refine j5 rfl rfl rfl rfl (fun c=>qi (z08 (H.1 (zk rfl c)) rfl)) fun ap I=>?_;refine jd rfl (z2k rfl rfl (fun n=>(I.1 (zk rfl n)))) (jd (v:=(.bool ((decide (16<m.inputs))||(decide (16<m.outputs))))) rfl (zg rfl) (j5 rfl rfl rfl rfl (fun c=>ak dx vw rfl l) fun aq K=>?_))
 refine j5 rfl rfl rfl rfl (fun c=>u6 z4r rfl (K.1 (zk rfl c))) fun ar L=>?_;refine j5 rfl rfl rfl rfl (fun c=>qi (qx rfl underlying25 rfl (je (L.1 (zk rfl c))))) fun au M=>?_;refine j5 rfl rfl rfl rfl (fun c=>qi (z08 (M.1 (zk rfl c)) rfl)) fun av O=>?_
 refine jd rfl (z2k rfl rfl (fun n=>(O.1 (zk rfl n)))) (z8 (qa rfl b (fun b=>?_) (fun b=>?_)));refine zo (zm (vi 3) (z8 (qw ?_)));obtain rfl:=Option.some.inj b;refine qh (D:=[]) (J:=[]) (rs:=[.tmp 2]) (vs:=[(vi 3)]) k rfl rfl ⟨rfl,trivial⟩ ?_;exact⟨rfl,rfl⟩
 refine qc (q9 (zo (zqp rfl (ak z3q z1s rfl l) fun aw P=>?_)));refine jd rfl (pg (u6 ty3 rfl P)) (jd rfl (jk rfl rfl) (jd (v:=(.bool (decide (m.inputs<1)))) rfl (zg rfl) (j5 rfl rfl rfl rfl (fun c=>ak zk0 zeh rfl l) fun ax Q=>?_)))
 refine j5 rfl rfl rfl rfl (fun c=>qi (pg (u6 ty3 rfl (Q.1 (zk rfl c))))) fun ay S=>?_;refine j5 rfl rfl rfl rfl (fun c=>qi (jk (S.1 (zk rfl c)) rfl)) fun az U=>?_
 refine jd rfl (z2k rfl rfl (fun n=>(U.1 (zk rfl n)))) (jd (v:=(.bool ((decide (m.inputs<1))||(decide (m.outputs<1))))) rfl (zg rfl) (j5 rfl rfl rfl rfl (fun c=>ak dx vw rfl l) fun aA V=>?_));refine j5 rfl rfl rfl rfl (fun c=>u6 z4r rfl (V.1 (zk rfl c))) fun aB W=>?_
 refine j5 rfl rfl rfl rfl (fun c=>qi (qx rfl underlying25 rfl (je (W.1 (zk rfl c))))) fun aC X=>?_;refine j5 rfl rfl rfl rfl (fun c=>qi (jk (X.1 (zk rfl c)) rfl)) fun aD Y=>?_;refine jd rfl (z2k rfl rfl (fun n=>(Y.1 (zk rfl n)))) (z8 (qa rfl b (fun b=>?_) (fun b=>?_)))
 refine zo (zm (vi 1) (z8 (qw ?_)));obtain rfl:=Option.some.inj b;refine qh (D:=[]) (J:=[]) (rs:=[.tmp 2]) (vs:=[(vi 1)]) k rfl rfl ⟨rfl,trivial⟩ ?_;exact⟨rfl,rfl⟩;refine qc ?_;obtain⟨s,a,b⟩:=zu b;refine jb (γ:=Unit) (rs [2,3,4,5,33,51]) (fun g=>[]) (fun g=>[]++A) (fun g R=>s=Ex.go g∧True) ?_ ?_
 refine zo (jq rfl dx vw rfl l fun aE Z=>?_);refine j3 rfl z4r rfl Z fun aF t=>?_
 refine zi (qx rfl underlying25 rfl (je t)) (zl (vi 0) (z8 (zz (ky (γ:=Nat×Int) (rs [2,3,4,5,36,51]) (fun g=>[(36,(vi g.2))]) (fun g=>[]++A) (fun g R=>mi N m g.1 g.2=some s∧True) (fun g=>g.1) (N,0) prm ⟨a,trivial⟩ ?_))));clear a;rintro⟨o,e⟩ aj aG d ⟨a,_⟩;rcases o with _|o
 exact j6 a;replace a:mi N m (o+1) e=some s:=a;rw [mi] at a;refine zo (zi (jk rfl rfl) (z8 (q9 (qa rfl a (fun a=>?_) (fun a=>?_)))));refine qc (q9 (zz (zo ?_)));obtain⟨u,a⟩:=za a
 refine yj (i:=e.toNat) rfl zmy rfl (je (t.mono d)) (zb rfl u.1) (zn u) fun aH aa=>?_;refine j3 rfl zk8 rfl aa fun p w=>?_;refine zm p (j4 (jd (v:=p) rfl (zg rfl) (jd rfl (qx rfl underlying54 rfl (je w)) (zqp rfl (ak z3q z1s rfl (l.mono d)) fun aI ab=>?_))))
 refine jd rfl (pg (u6 ty3 rfl ab)) (jd rfl (ai rfl rfl) (jd (v:=(.bool (decide ((↑(ix m.rows e).length:Int)≠m.inputs)))) rfl (zg rfl) (j5 rfl rfl rfl rfl (fun c=>qi (v:=p) (zg rfl)) fun aJ ac=>?_)))
 refine j5 rfl rfl rfl rfl (fun c=>qi (v:=(.func (.func 83) #[] #[E])) (z2g (fs:=[]) (cs:=[E]) rfl rfl)) fun aK ad=>?_;obtain⟨ae,ag,a⟩:=zu a
 refine af rfl rfl rfl rfl (fun c=>yh (vs:=[p,(.func (.func 83) #[] #[E])]) q5g (z02 (ac.1 (zk rfl c)) (z02 (ad.1 (zk rfl c)) rfl)) ((by have ah:=(rf ag (zk rfl c));exact z7e w (zy4 (cs:=[E]) q5f fun R1 hq z0 u0 y k0 hy=>by obtain rfl:=z2t.1 k0;exact CallP.mono (zdy ((l.mono d).mono hq) hy) fun v R2 _ hv=>yl.2 hv) ah)) (fun _ _ h=>h)) fun x z f j=>?_
 replace j:phG (true&&((decide ((↑(ix m.rows e).length:Int)≠m.inputs))==false)) (phX (.bool (ae.getD default))) x z:=j;refine jd rfl (z2k rfl rfl (fun n=>(j.1 (zk rfl n)))) (z8 (qa rfl a (fun a=>?_) (fun a=>?_)));refine zo (zm (vi 1) (z8 (qw ?_)));replace b:=z3x a b;obtain rfl:=Option.some.inj b
 refine qh (D:=[]) (J:=[]) (rs:=[.tmp 2]) (vs:=[(vi 1)]) ((k.trans d).trans f) rfl rfl ⟨rfl,trivial⟩ ?_;exact⟨rfl,rfl⟩;refine qc (zt ?_);obtain⟨B,a⟩:=za a;refine zi (ji rfl rfl B) (zl (vi (e+1)) (z8 ?_));exact⟨dkt,f,jr,(o,e+1),Nat.lt_succ_self _,⟨rfl,trivial⟩,prm,a,trivial⟩
 refine jm ?_;exact⟨dkt,d,jr,(),trivial,prm,(Option.some.inj a).symm,trivial⟩;rintro aP al aQ C ⟨rfl,_⟩;replace b:=z1n b;refine zo (zm (vi 0) (z8 (qw ?_)));obtain rfl:=Option.some.inj b;refine qh (D:=[]) (J:=[]) (rs:=[.tmp 2]) (vs:=[(vi 0)]) (k.trans C) rfl rfl ⟨rfl,trivial⟩ ?_;exact⟨rfl,rfl⟩
theorem q4r:Enters prog 75:=enters_of func75 rfl (by kernel_rfl)
theorem zz2: ∀ w,∃ z,(zeroValue 88).run prog w= .ok z w∧z.cells=([.slice none 0 0]:List Value).toArray:=fun w=>⟨vs0,by kernel_rfl,rfl⟩
theorem zzv: ∀ w,(sizeOf 88).run prog w= .ok 1 w:=fun w=>by kernel_rfl
theorem q2u: ∀ w,∃ z,(zeroValue 124).run prog w= .ok z w∧z.cells=([.nilFunc]:List Value).toArray:=fun w=>⟨.nilFunc,by kernel_rfl,rfl⟩
theorem q2o: ∀ w,(sizeOf 124).run prog w= .ok 1 w:=fun w=>by kernel_rfl
theorem q0b: ∀ w,(isAgg 124).run prog w= .ok false w:=fun w=>by kernel_rfl
theorem zez: ∀ w,(isAgg 88).run prog w= .ok false w:=fun w=>by kernel_rfl
theorem q48:Enters prog 76:=enters_of func76 rfl (by kernel_rfl)
theorem z8x{N:Nat}(F:Nat): ∀ {R:RH} {s:Int} {a:Nat} {p0_:List Bool} {e:Value} {fAg:Frag} (f:ORep ww R fAg e p0_) {p1_:Mach} {d:Value} (k:PRep (jg false false) R d p1_) {b:Nat} {r:List Bool} (c:x9 N F s p0_ p1_=some r),CallG prog 76 #[(vi s),(.pointer (some ⟨a,0,none⟩)),d,(.pointer (some ⟨b,0,none⟩))] R [box a [e] 88,fAg,box b [.func (.func 76) #[] #[(.pointer (some ⟨a,0,none⟩)),d,(.pointer (some ⟨b,0,none⟩))]] 124] (fun v R' O'=> ∃ l m,v= .tuple #[]∧O'=[box a [l] 88,m,box b [.func (.func 76) #[] #[(.pointer (some ⟨a,0,none⟩)),d,(.pointer (some ⟨b,0,none⟩))]] 124]∧ORep ww R' m l r):=by
  induction F with
  |zero=>intros;rename_i c;exact j6 c
  |succ F ih=>
    intro R s a p0_ e fAg f p1_ d k b r c
    refine su (args:=[(vi s),(.pointer (some ⟨a,0,none⟩)),d,(.pointer (some ⟨b,0,none⟩))]) func76 rfl rfl fun A=>?_
    rw [x9] at c
    refine q9 ?_
    refine q9 ?_
    refine zt ?_
    refine jd (v:=(vi s)) rfl (zg rfl) ?_
    refine jd rfl (uu rfl rfl) ?_
    refine jd (v:=(.bool (decide (s=(-1))))) rfl (zg rfl) ?_
    refine j5 rfl rfl rfl rfl (fun o=>qi (v:=e) (zf (i:=0) zez rfl rfl rfl)) fun v7 h8=>?_
    refine j5 rfl rfl rfl rfl (fun o=>qi (v:=(vi s)) (zg rfl)) fun v9 G=>?_
    obtain⟨q,c⟩:=za c
    refine j5 rfl rfl rfl rfl (fun o=>z1r (i:=s.toNat) z88 (h8.1 (zk rfl o)) f (zb (G.1 (zk rfl o)) (q (zk rfl o)).1) (zn (q (zk rfl o)))) fun ae H=>?_
    refine j5 rfl rfl rfl rfl (fun o=>qi (zh7 (zax (i:=s.toNat) (j:=1) ty4 f rfl rfl (H.1 (zk rfl o)) (zn (q (zk rfl o)))))) fun af I=>?_
    refine jd rfl (z2k rfl rfl (fun hb=>(I.1 (zk rfl hb)))) ?_
    refine z8 ?_
    refine qa rfl c (fun c=>?_) (fun c=>?_)
    · refine qw ?_
      obtain rfl:=Option.some.inj c
      refine au (D:=[]) (J:=[]) (O':=[box a [e] 88,fAg,box b [(.func (.func 76) #[] #[(.pointer (some ⟨a,0,none⟩)),d,(.pointer (some ⟨b,0,none⟩))])] 124]) (rs:=[]) (vs:=[]) (RH.le.refl _) ((pk 0 rfl (pk 0 rfl (pk 0 rfl (List.Perm.refl _))))) rfl trivial ?_
      exact⟨e,fAg,rfl,rfl,f⟩
    · refine qc ?_
      refine q9 ?_
      refine zt ?_
      refine zi (zf (i:=0) zez rfl rfl rfl) ?_
      refine zl (vi s) ?_
      obtain⟨t,c⟩:=za c
      refine ku (i:=s.toNat) rfl z88 rfl f (zb rfl t.1) (zn t) fun ah K=>?_
      refine p8 (i:=s.toNat) (j:=1) ty4 f rfl rfl K (zn t) rfl (yl.2 rfl) fun L M=>?_
      refine z8 ?_
      refine q9 ?_
      refine zt ?_
      refine jq rfl dx vw rfl k fun ai O=>?_
      refine j3 rfl z4r rfl O fun aj P=>?_
      refine zl (vi s) ?_
      obtain⟨x,c⟩:=za c
      refine yj (i:=s.toNat) rfl zmy rfl (je P) (zb rfl x.1) (zn x) fun ak Q=>?_
      refine j3 rfl zk8 rfl Q fun al y=>?_
      refine zi (qx rfl underlying54 rfl (je y)) ?_
      refine zl (vi 0) ?_
      refine z8 ?_
      refine zz ?_
      refine ky (γ:=Nat×Int×(List Bool)×Value×Frag) (rs [6,7,24,33]) (fun g=>[(24,(vi g.2.1))]) (fun g=>[box b [(.func (.func 76) #[] #[(.pointer (some ⟨a,0,none⟩)),d,(.pointer (some ⟨b,0,none⟩))])] 124,box a [g.2.2.2.1] 88,g.2.2.2.2]++A) (fun g R=>xy N (x9 N F) s p1_ g.1 g.2.1 g.2.2.1=some r∧ORep ww R g.2.2.2.2 g.2.2.2.1 g.2.2.1∧True) (fun g=>g.1) (N,0,(up p0_ s true),e,L) ⟨[],(pk 2 rfl (pk 0 rfl (pk 0 rfl (List.Perm.refl _))))⟩ ⟨c,M,trivial⟩ ?_
      clear c
      rintro⟨p,h,S,u,w⟩ am an n ⟨c,z,_⟩
      rcases p with _|p
      · exact j6 c
      replace c:xy N (x9 N F) s p1_ (p+1) h S=some r:=c;rw [xy] at c
      refine q9 ?_
      refine zt ?_
      refine zi (jk rfl rfl) ?_
      refine z8 ?_
      refine q9 ?_
      refine qa rfl c (fun c=>?_) (fun c=>?_)
      · refine qc ?_
        refine q9 ?_
        refine zz ?_
        refine q9 ?_
        refine zt ?_
        obtain⟨B,c⟩:=za c
        refine yj (i:=h.toNat) rfl zmj rfl (je (y.mono n)) (zb rfl B.1) (zn B) fun ao T=>?_
        refine j3 rfl zp7 rfl T fun ap U=>?_
        obtain rfl:=z2t.1 U
        refine jc rfl zta fun C=>?_
        refine ql (i:=0) (vs:=[(vi ((ix (ix p1_.rows s) h).to)),(vi ((ix (ix p1_.rows s) h).out))]) zh0 rfl rfl rfl rfl rfl rfl (qb rfl (qb rfl qy)) ?_
        refine z8 ?_
        refine zt ?_
        refine zi (zf (i:=1) q0b rfl rfl rfl) ?_
        refine zi (qd za6 rfl) ?_
        refine zi (zf (i:=0) ag3 rfl rfl rfl) ?_
        obtain⟨V,W,c⟩:=zu c
        refine lh (Oc:=[box a [u] 88,w,box b [(.func (.func 76) #[] #[(.pointer (some ⟨a,0,none⟩)),d,(.pointer (some ⟨b,0,none⟩))])] 124]) (Or:=[box C [(vi ((ix (ix p1_.rows s) h).to)),(vi ((ix (ix p1_.rows s) h).out))] 53]++A) (cs:=[(.pointer (some ⟨a,0,none⟩)),d,(.pointer (some ⟨b,0,none⟩))]) (vs:=[(vi ((ix (ix p1_.rows s) h).to))]) rfl q48 rfl rfl ((pk 2 rfl (pk 2 rfl (pk 1 rfl (pk 0 rfl (List.Perm.refl _)))))) (ih z (k.mono n) W) fun aq ar ac E X=>?_
        obtain⟨Y,Z,rfl,rfl,aa⟩:=X
        refine z8 ?_
        refine zt ?_
        obtain⟨ab,c⟩:=za c
        refine zi (ji rfl rfl ab) ?_
        refine zl (vi (h+1)) ?_
        refine z8 ?_
        exact⟨dkt,E,jr,(p,h+1,V,Y,Z),Nat.lt_succ_self _,⟨rfl,trivial⟩,⟨[box C [(vi ((ix (ix p1_.rows s) h).to)),(vi ((ix (ix p1_.rows s) h).out))] 53],(pk 3 rfl (pk 2 rfl (pk 0 rfl (pk 0 rfl (List.Perm.refl _)))))⟩,c,aa,trivial⟩
      · refine jm ?_
        show zc4 _ _ _ _ _ .ret _ [] _ _
        obtain rfl:=Option.some.inj c
        refine au (D:=[]) (J:=[]) (O':=[box a [u] 88,w,box b [(.func (.func 76) #[] #[(.pointer (some ⟨a,0,none⟩)),d,(.pointer (some ⟨b,0,none⟩))])] 124]) (rs:=[]) (vs:=[]) n ((pk 1 rfl (pk 1 rfl (pk 0 rfl (List.Perm.refl _))))) rfl trivial ?_
        exact⟨u,w,rfl,rfl,z⟩
theorem zbi{N:Nat}{R:RH}{s:Int}{a:Nat}{p0_:List Bool}{d:Value}{fAg:Frag}(g:ORep ww R fAg d p0_){p1_:Mach}{c:Value}(h:PRep (jg false false) R c p1_){b:Nat}{r:List Bool}(i:x9 N N s p0_ p1_=some r):CallG prog 76 #[(vi s),(.pointer (some ⟨a,0,none⟩)),c,(.pointer (some ⟨b,0,none⟩))] R [box a [d] 88,fAg,box b [.func (.func 76) #[] #[(.pointer (some ⟨a,0,none⟩)),c,(.pointer (some ⟨b,0,none⟩))]] 124] (fun v R' O'=> ∃ e f,v= .tuple #[]∧O'=[box a [e] 88,f,box b [.func (.func 76) #[] #[(.pointer (some ⟨a,0,none⟩)),c,(.pointer (some ⟨b,0,none⟩))]] 124]∧ORep ww R' f e r):=z8x N g h i
theorem zdn{N:Nat}{R:RH}{s:(List Bool)}{c:Value}(h:VRep (tSl false ww) R c s){f:Bool}{r:Int}(b:z1x N s f=some r):CallP prog 85 #[c,(.bool f)] R (fun v R'=>v=(vi r)):=by
 refine qp (args:=[c,(.bool f)]) func85 rfl rfl fun A=>?_;rw [z1x] at b;refine zo (zm (vi 0) (z8 ?_));obtain⟨l,a,b⟩:=zu b;refine jb (γ:=Unit) (rs [4,19]) (fun g=>[]) (fun g=>[]++A) (fun g R=>l=Ex.go g∧True) ?_ ?_
 refine zo (zl c (zi (qx rfl underlying88 rfl (je h)) (zl (vi 0) (z8 (zz (ky (γ:=Nat×Int) (rs [4,6,8,19]) (fun g=>[(8,(vi g.2))]) (fun g=>[]++A) (fun g R=>gu N s f g.1 g.2=some l∧True) (fun g=>g.1) (N,0) prm ⟨a,trivial⟩ ?_))))));clear a;rintro⟨k,d⟩ q x e ⟨a,_⟩;rcases k with _|k
 exact j6 a;replace a:gu N s f (k+1) d=some l:=a;rw [gu] at a;refine zo (zi (jk rfl rfl) (z8 (q9 (qa rfl a (fun a=>?_) (fun a=>?_)))));refine qc (q9 (zz (zo (zl (vi d) (zm (vi d) (j4 (zl (.bool f) (zl c (zl (vi d) ?_)))))))))
 obtain⟨j,a⟩:=za a;refine yj (i:=d.toNat) rfl z88 rfl (je (h.mono e)) (zb rfl j.1) (zn j) fun t m=>?_;refine j3 rfl ty4 rfl m fun u n=>?_;obtain rfl:=yl.1 n;refine zi (zx7 underlying4 rfl rfl) (z8 (qa rfl a (fun a=>?_) (fun a=>?_)))
 refine zo (zl (vi d) (zm (vi d) (z8 (qw ?_))));replace b:=z3x a b;obtain rfl:=Option.some.inj b;refine qh (D:=[]) (J:=[]) (rs:=[.tmp 4]) (vs:=[(vi d)]) e rfl rfl ⟨rfl,trivial⟩ ?_;exact⟨rfl,rfl⟩;refine qc (zt ?_);obtain⟨o,a⟩:=za a
 refine zi (ji rfl rfl o) (zl (vi (d+1)) (z8 ?_));exact⟨dkt,(RH.le.refl _),jr,(k,d+1),Nat.lt_succ_self _,⟨rfl,trivial⟩,prm,a,trivial⟩;refine jm ?_;exact⟨dkt,e,jr,(),trivial,prm,(Option.some.inj a).symm,trivial⟩;rintro y w z p ⟨rfl,_⟩;replace b:=z1n b;refine zo (zm (vi (-1)) (z8 (qw ?_)))
 obtain rfl:=Option.some.inj b;refine qh (D:=[]) (J:=[]) (rs:=[.tmp 4]) (vs:=[(vi (-1))]) p rfl rfl ⟨rfl,trivial⟩ ?_;exact⟨rfl,rfl⟩
theorem q5s:Enters prog 85:=enters_of func85 rfl (by kernel_rfl)
theorem zb9{N:Nat}{R:RH}{s:(List Bool)}{a:Value}(d:VRep (tSl false ww) R a s){c:Bool}{r:Bool}(b:z0g N s c=some r):CallP prog 77 #[a,(.bool c)] R (fun v R'=>v=(.bool r)):=by
 refine qp (args:=[a,(.bool c)]) func77 rfl rfl fun A=>?_;rw [z0g] at b;refine zo (zm (.bool false) (j4 (zl a (zl (.bool c) ?_))));obtain⟨f,g,b⟩:=zu b;refine jl rfl q5s rfl (zdn d g) fun i j e h=>?_;obtain rfl:=h
 refine zi (z7f rfl rfl) (zm (.bool (decide (0≤f))) (z8 (qw ?_)));obtain rfl:=Option.some.inj b;refine qh (D:=[]) (J:=[]) (rs:=[.tmp 4]) (vs:=[(.bool (decide (0≤f)))]) e rfl rfl ⟨rfl,trivial⟩ ?_;exact⟨rfl,rfl⟩
theorem q68:Enters prog 77:=enters_of func77 rfl (by kernel_rfl)
theorem zcl{N:Nat}{R:RH}{m:Mach}{h:Value}(j:VRep (jg false false) R h m){r:Bool×Int}(a:z1a N m=some r):CallP prog 63 #[h] R (fun v R'=>v= .tuple #[(.bool r.1),(vi r.2)]):=by
 refine qp (args:=[h]) func63 rfl rfl fun A=>?_;rw [z1a] at a;refine zo (y5 (T:=(jg false false)) rfl rfl rfl j fun o Z f O L=>?_);refine zm (.bool false) (zm (vi 0) (z8 (q9 (zo (zi (ko z1i rfl rfl O (j.mono f)) ?_)))));obtain⟨p,P,a⟩:=zu a
 refine jl rfl q4r rfl (zfr (j.mono f) P) fun v8 Q e S=>?_;obtain rfl:=S;refine zm (vi p) (j4 (zl (vi p) (zi (ai rfl rfl) (z8 (qa rfl a (fun a=>?_) (fun a=>?_))))));refine zo (zl (vi p) (zm (.bool false) (zm (vi p) (z8 (qw ?_)))));obtain rfl:=Option.some.inj a
 refine qh (D:=[]) (J:=[]) (rs:=[.tmp 2,.tmp 3]) (vs:=[(.bool false),(vi p)]) (f.trans e) rfl rfl ⟨rfl,rfl,trivial⟩ ?_;exact⟨rfl,rfl⟩;refine qc (zo (jq rfl dx vw rfl (L.mono e) fun U w=>?_));refine j3 rfl z4r rfl w fun V x=>?_;refine zi (qx rfl underlying25 rfl (je x)) ?_
 obtain⟨g,a⟩:=za a;refine z2m (T:=ww) (m:=(↑m.rows.length:Int).toNat) (c:=(↑m.rows.length:Int).toNat) rfl underlying88 zo4 (zb rfl g.1) (zb rfl g.1) (Nat.le_refl _) (z3v g) (z3u g) fun q y z k=>?_;refine jc rfl zz2 fun b=>?_
 refine ql (i:=0) (vs:=[q]) zzv rfl rfl (ui k) rfl rfl rfl (qb (uq k) qy) ?_;refine j4 (jc rfl q2u fun d=>?_)
 refine j4 (zi (z2g (fs:=[]) (cs:=[(.pointer (some ⟨b,0,none⟩)),o,(.pointer (some ⟨d,0,none⟩))]) rfl rfl) (ql (i:=0) (vs:=[(.func (.func 76) #[] #[(.pointer (some ⟨b,0,none⟩)),o,(.pointer (some ⟨d,0,none⟩))])]) q2o rfl rfl rfl rfl rfl rfl (qb rfl qy) ?_));refine j4 (zi (zf (i:=0) q0b rfl rfl rfl) ?_)
 obtain⟨B,C,a⟩:=zu a
 refine lh (Oc:=[box b [q] 88,y,box d [(.func (.func 76) #[] #[(.pointer (some ⟨b,0,none⟩)),o,(.pointer (some ⟨d,0,none⟩))])] 124]) (Or:=[]++A) (cs:=[(.pointer (some ⟨b,0,none⟩)),o,(.pointer (some ⟨d,0,none⟩))]) (vs:=[(vi 0)]) rfl q48 rfl rfl ((pk 1 rfl (pk 1 rfl (pk 0 rfl (List.Perm.refl _))))) (zbi k (L.mono e) C) fun W X M s E=>?_
 obtain⟨l,F,rfl,rfl,G⟩:=E;refine j4 (zi (zf (i:=0) zez rfl rfl rfl) ?_);obtain⟨n,H,a⟩:=zu a;refine zhc (cs:=[]) (vs:=[l,(.bool false)]) (φ:=fun v=>v=(.bool n)) rfl q68 rfl rfl (fun I t u=>zb9 (z6h ((zdt 1 rfl G t u):VRep (vk ww) I l B)) H) fun Y K=>?_;obtain rfl:=K
 refine zi (tu rfl) (zm (.bool (!n)) (zm (vi 0) (z8 (qw ?_))));obtain rfl:=Option.some.inj a
 refine qh (D:=[]) (J:=[box b [l] 88,F,box d [(.func (.func 76) #[] #[(.pointer (some ⟨b,0,none⟩)),o,(.pointer (some ⟨d,0,none⟩))])] 124]) (rs:=[.tmp 2,.tmp 3]) (vs:=[(.bool (!n)),(vi 0)]) ((f.trans e).trans s) rfl rfl ⟨rfl,rfl,trivial⟩ ?_;exact⟨rfl,rfl⟩
theorem q5e:Enters prog 63:=enters_of func63 rfl (by kernel_rfl)
theorem z5f{N:Nat}{R:RH}{m:Mach}{e:Value}(f:VRep (jg false false) R e m){r:Int}(a:z0c N m=some r):CallP prog 35 #[e] R (fun v R'=>v=(vi r)):=by
 refine qp (args:=[e]) func35 rfl rfl fun A=>?_;rw [z0c] at a;refine zo (y5 (T:=(jg false false)) rfl rfl rfl f fun s t c j u=>?_);refine zm (vi 0) (j4 (zi (ko z1i rfl rfl j (f.mono c)) ?_));obtain⟨b,k,a⟩:=zu a
 refine jl rfl q5e rfl (zcl (f.mono c) k) fun w l d n=>?_;obtain rfl:=n
 refine zl (.tuple #[(.bool b.1),(vi b.2)]) (zi (jo rfl rfl) (zi (jo rfl rfl) (zm (.bool b.1) (zm (vi b.2) (z8 (q9 (zo (jd (v:=(vi b.2)) rfl (zg rfl) (jd rfl (uu rfl rfl) (jd (v:=(.bool (decide (b.2=0)))) rfl (zg rfl) (j5 rfl rfl rfl rfl (fun i=>qi (v:=(.bool b.1)) (zg rfl)) fun o g=>?_)))))))))))
 refine j5 rfl rfl rfl rfl (fun i=>qi (tu (g.1 (zk rfl i)))) fun p h=>?_;refine jd rfl (uk rfl (fun q=>(h.1 (zk rfl q))) rfl) (z8 (qa rfl a (fun a=>?_) (fun a=>?_)));refine zo (zm (vi 11) (z8 (qw ?_)));obtain rfl:=Option.some.inj a
 refine qh (D:=[]) (J:=[]) (rs:=[.tmp 2]) (vs:=[(vi 11)]) (c.trans d) rfl rfl ⟨rfl,trivial⟩ ?_;exact⟨rfl,rfl⟩;refine qc (zo (zl (vi b.2) (zm (vi b.2) (z8 (qw ?_)))));obtain rfl:=Option.some.inj a;refine qh (D:=[]) (J:=[]) (rs:=[.tmp 2]) (vs:=[(vi b.2)]) (c.trans d) rfl rfl ⟨rfl,trivial⟩ ?_
 exact⟨rfl,rfl⟩
theorem zwg:Enters prog 35:=enters_of func35 rfl (by kernel_rfl)
theorem q52{a:Bool}:ZeroOk prog 88 (tSl a ww) ([]:List Bool) 24:=by
 obtain⟨i,zv,hi,c,d,f,g⟩:=z11 (P:=prog) (e:=88) (zv:=vs0) (k:=1) (b:=24) (by kernel_rfl);exact⟨i,zv,hi,c,d,f,fun R=>by subst g;exact(kw rfl z0o)⟩
theorem zoe: ∀ w,∃ z,(zeroValue 36).run prog w= .ok z w∧z.cells=([.slice none 0 0]:List Value).toArray:=fun w=>⟨vs0,by kernel_rfl,rfl⟩
theorem zew: ∀ w,(sizeOf 36).run prog w= .ok 1 w:=fun w=>by kernel_rfl
theorem z5z: ∀ w,(isAgg 36).run prog w= .ok false w:=fun w=>by kernel_rfl
theorem z0b{N:Nat}{R:RH}{m:Mach}{a:Value}(f:VRep (jg false false) R a m){s:Int}{r:Mach×Int}(b:xz N m s=some r):CallP prog 47 #[a,(vi s)] R (fun v R'=> ∃ h i,v= .func (.func 66) #[] #[h,i]∧PRep (jg false false) R' h r.1∧PRep (zy .i64) R' i r.2):=by
 refine qp (args:=[a,(vi s)]) func47 rfl rfl fun A=>?_;rw [xz] at b;refine zo (y5 (T:=(jg false false)) rfl rfl rfl f fun d l g n j=>?_);refine z8e (T:=(zy .i64)) rfl rfl (qj.2 rfl) fun e o c k=>?_
 refine zm .nilFunc (j4 (zi (z2g (fs:=[]) (cs:=[d,e]) rfl rfl) (zm (.func (.func 66) #[] #[d,e]) (z8 (qw ?_)))));obtain rfl:=Option.some.inj b;refine qh (D:=[]) (J:=[]) (rs:=[.tmp 4]) (vs:=[(.func (.func 66) #[] #[d,e])]) (g.trans c) rfl rfl ⟨rfl,trivial⟩ ?_;exact⟨rfl,⟨d,e,rfl,(j.mono c),k⟩⟩
theorem zm4:Enters prog 47:=enters_of func47 rfl (by kernel_rfl)
theorem ig{N:Nat}{R:RH}{p0_:Mach}{f:Value}(u:PRep (jg false false) R f p0_){p1_:Int}{h:Value}(y:PRep (zy .i64) R h p1_):zwt prog 66 [f,h] R (fun(x:Sb) vs R=>vs=[(z5g x)])  (fun σ B s=>dw N p0_ p1_ σ B s):=by
 intro yv σ B I R1 O s0 U p W X c Y Z;refine su (args:=[yv,f,h]) func66 rfl rfl fun A=>?_;dsimp only at c;rw [dw] at c;refine zo (jq rfl dx vw rfl (u.mono p) fun v1 h2=>?_);refine j3 rfl z4r rfl h2 fun v3 h4=>?_;refine j3 rfl ty3 rfl (y.mono p) fun v5 h6=>?_;obtain rfl:=qj.1 h6
 obtain⟨V,c⟩:=za c;refine yj (i:=p1_.toNat) rfl zmy rfl (je h4) (zb rfl V.1) (zn V) fun v8 h9=>?_;refine j3 rfl zk8 rfl h9 fun ae E=>?_
 refine zi (qx rfl underlying54 rfl (je E)) (zl (vi 0) (z8 (zz (ky (γ:=Nat×σ×Int×(List Frag)) (rs [4,6,12,30]) (fun g=>[(12,(vi g.2.2.1))]) (fun g=>[]++(g.2.2.2++A)) (fun g R=>sj N σ B p0_ p1_ g.1 g.2.1 g.2.2.1=some U∧I g.2.1 R g.2.2.2∧True) (fun g=>g.1) (N,s0,0,O) prm ⟨c,X,trivial⟩ ?_))));clear c
 rintro⟨m,z,a,k⟩ af ag j ⟨c,l,_⟩;rcases m with _|m;exact j6 c;replace c:sj N σ B p0_ p1_ (m+1) z a=some U:=c;rw [sj] at c;refine zo (zi (jk rfl rfl) (z8 (q9 (qa rfl c (fun c=>?_) (fun c=>?_)))));refine qc ?_;obtain⟨L,e,c⟩:=zu c
 refine jb (γ:=σ×(List Frag)) (rs [4,6,14,29]) (fun g=>[]) (fun g=>[]++(g.2++A)) (fun g R=>L=Ex.go g.1∧I g.1 R g.2∧True) ?_ ?_;refine zz (zo (zl (vi a) ?_));obtain⟨F,e⟩:=za e;refine yj (i:=a.toNat) rfl zmj rfl (je (E.mono j)) (zb rfl F.1) (zn F) fun ah M=>?_
 refine j3 rfl zp7 rfl M fun aj P=>?_;obtain rfl:=z2t.1 P;refine jc rfl zta fun n=>?_;refine zm (vi a) (ql (i:=0) (vs:=[(vi ((ix (ix p0_.rows p1_) a).to)),(vi ((ix (ix p0_.rows p1_) a).out))]) zh0 rfl rfl rfl rfl rfl rfl (qb rfl (qb rfl qy)) ?_)
 refine j4 (zi (qd za6 rfl) (zi (zf (i:=0) ag3 rfl rfl rfl) (zi (ai rfl rfl) (zl (.bool (decide (((ix (ix p0_.rows p1_) a).to)≠(-1)))) (zas (b:=decide (((ix (ix p0_.rows p1_) a).to)≠(-1))) (fun d=>?_) (fun d=>?_))))));replace e:=zln d e;refine z90 (s:=20) rfl rfl (congrArg Value.bool d) ?_
 refine zl yv (z90 (s:=20) rfl rfl (congrArg Value.bool d) ?_);refine zl (vi a) (z90 (s:=20) rfl rfl (congrArg Value.bool d) ?_);refine zi (qd za6 rfl) (z90 (s:=20) rfl rfl (congrArg Value.bool d) ?_);refine zi (zf (i:=0) ag3 rfl rfl rfl) (z90 (s:=20) rfl rfl (congrArg Value.bool d) ?_)
 refine zi (jy (ps:=[(0,(vi a)),(1,(vi ((ix (ix p0_.rows p1_) a).to)))]) (v:=(.agg #[(vi a),(vi ((ix (ix p0_.rows p1_) a).to))])) rfl (fun w=>by kernel_rfl)) (z90 (s:=20) rfl rfl (congrArg Value.bool d) ?_);obtain⟨o,Q,e⟩:=zu e
 refine zfo (vs:=[(.agg #[(vi a),(vi ((ix (ix p0_.rows p1_) a).to))])]) (J:=[box n [(vi ((ix (ix p0_.rows p1_) a).to)),(vi ((ix (ix p0_.rows p1_) a).out))] 53]) (Oc:=k) (A:=A) rfl rfl rfl rfl (Y (⟨a,(ix (ix p0_.rows p1_) a).to⟩:Sb) z o.1 o.2 _ _ [(.agg #[(vi a),(vi ((ix (ix p0_.rows p1_) a).to))])] j rfl l Q) fun ak q r t=>?_
 refine z90 (s:=20) rfl rfl (congrArg Value.bool d) ?_;refine zi (tu rfl) (zi (zb2 (v:=(.bool (!o.1))) (congrArg Value.bool d) rfl) (z8 (qa rfl e (fun e=>?_) (fun e=>?_))));refine qw ?_;replace c:=z3x e c;obtain rfl:=Option.some.inj c
 refine au (D:=[]) (J:=[box n [(vi ((ix (ix p0_.rows p1_) a).to)),(vi ((ix (ix p0_.rows p1_) a).out))] 53]) (O':=q) (rs:=[]) (vs:=[]) (j.trans r) (List.Perm.refl _) rfl trivial ?_;exact t;refine qc ?_
 exact⟨dkt,r,jr,(o.2,q),trivial,⟨[box n [(vi ((ix (ix p0_.rows p1_) a).to)),(vi ((ix (ix p0_.rows p1_) a).out))] 53],(List.Perm.refl _)⟩,(Option.some.inj e).symm,t,trivial⟩;replace e:=zlf d e;refine z8s (s:=20) rfl rfl (congrArg Value.bool d) rfl rfl ?_;refine z8s (s:=20) rfl rfl (congrArg Value.bool d) rfl rfl ?_
 refine z8s (s:=20) rfl rfl (congrArg Value.bool d) rfl rfl ?_;refine z8s (s:=20) rfl rfl (congrArg Value.bool d) rfl rfl ?_;refine z8s (s:=20) rfl rfl (congrArg Value.bool d) rfl rfl ?_;refine z8s (s:=20) rfl rfl (congrArg Value.bool d) rfl rfl ?_;refine z8s (s:=20) rfl rfl (congrArg Value.bool d) rfl rfl ?_
 refine zi (zay (v:=(.bool false)) (congrArg Value.bool d) rfl) (z8 (zdi rfl (fun C=>nomatch C) (fun C=>?_)));clear C;refine qc ?_;exact⟨dkt,(RH.le.refl _),jr,(z,k),trivial,⟨[box n [(vi ((ix (ix p0_.rows p1_) a).to)),(vi ((ix (ix p0_.rows p1_) a).out))] 53],(List.Perm.refl _)⟩,(Option.some.inj e).symm,l,trivial⟩
 rintro⟨S,G⟩ al am H ⟨rfl,K,_⟩;replace c:=z1n c;refine zt ?_;obtain⟨T,c⟩:=za c;refine zi (ji rfl rfl T) (zl (vi (a+1)) (z8 ?_));exact⟨dkt,H,jr,(m,S,a+1,G),Nat.lt_succ_self _,⟨rfl,trivial⟩,prm,c,K,trivial⟩;refine jm ?_;show zc4 _ _ _ _ _ .ret _ [] _ _;obtain rfl:=Option.some.inj c
 refine au (D:=[]) (J:=[]) (O':=k) (rs:=[]) (vs:=[]) j (List.Perm.refl _) rfl trivial ?_;exact l
theorem zn5:Enters prog 66:=enters_of func66 rfl (by kernel_rfl)
theorem zg4: ∀ w,∃ z,(zeroValue 86).run prog w= .ok z w∧z.cells=([.int .i64 0,.int .i64 0]:List Value).toArray:=fun w=>⟨(.agg #[(vi 0),(vi 0)]),by kernel_rfl,rfl⟩
theorem zdl: ∀ w,(sizeOf 86).run prog w= .ok 2 w:=fun w=>by kernel_rfl
theorem z4e:FieldOk prog 86 1 1:=by
 obtain⟨i,hi,a⟩: ∃ i,prog.info? 3=some i∧i.size=1:=jf (by kernel_rfl);exact uo underlying86 rfl rfl hi (by rw [a];rfl)
theorem zka{N:Nat}{R:RH}{m:Mach}{ad:Value}(ae:VRep (jg false false) R ad m){s:Int}{r:(List Bool)}(k:z7k N m s=some r):CallP prog 64 #[ad,(vi s)] R (fun v R'=>VRep (tSl true ww) R' v r):=by
 refine qp (args:=[ad,(vi s)]) func64 rfl rfl fun A=>?_;rw [z7k] at k;refine zo (y5 (T:=(jg false false)) rfl rfl rfl ae fun v1 R3 af h5 h2=>?_);refine zm vs0 (j4 (jq rfl dx vw rfl h2 fun v6 h7=>?_));refine j3 rfl z4r rfl h7 fun v8 h9=>?_;refine zi (qx rfl underlying25 rfl (je h9)) ?_
 obtain⟨M,k⟩:=za k;refine z2m (T:=ww) (m:=(↑m.rows.length:Int).toNat) (c:=(↑m.rows.length:Int).toNat) rfl underlying88 zo4 (zb rfl M.1) (zb rfl M.1) (Nat.le_refl _) (z3v M) (z3u M) fun d bA ag P=>?_;refine jc rfl zz2 fun l=>?_
 refine ql (i:=0) (vs:=[d]) zzv rfl rfl (ui P) rfl rfl rfl (qb (uq P) qy) ?_;refine j4 (zi (zf (i:=0) zez rfl rfl rfl) (zl (vi s) ?_));obtain⟨ah,k⟩:=za k;refine ku (i:=s.toNat) rfl z88 rfl P (zb rfl ah.1) (zn ah) fun bB aT=>?_
 refine p8 (i:=s.toNat) (j:=1) ty4 P rfl rfl aT (zn ah) rfl (yl.2 rfl) fun aU aV=>?_;refine z8 ?_;obtain⟨C,a,k⟩:=zu k;refine z3b (γ:=(List Bool)×Frag) false (rs [6,9,16,52]) (fun g=>[]) (fun g=>[box l [d] 88,g.2]++A) (fun g R=>C=g.1∧ORep ww R g.2 d g.1∧capOf d=g.1.length∧True) ?_ ?_
 refine zo (zl (vi s) (bv (T:=(zy .i64)) (X:=([s]:List Int)) (ps:=[(0,(vi s))]) (css:=[[(vi s)]]) rfl underlying36 zo3 rfl rfl (jv ⟨rfl,trivial⟩) rfl rfl (by decide) fun av aW aX ai=>?_));refine jc rfl zoe fun aY=>?_
 refine ql (i:=0) (vs:=[av]) zew rfl rfl (ui ai) rfl rfl rfl (qb (uq ai) qy) ?_
 refine z8 (zz (z1u (γ:=Nat×(List Bool)×(List Int)×Frag×Value×Frag×Nat) false (rs [6,9,18,52]) (fun g=>[(6,(.pointer (some ⟨g.2.2.2.2.2.2,0,none⟩)))]) (fun g=>[box l [d] 88,g.2.2.2.1,g.2.2.2.2.2.1,box g.2.2.2.2.2.2 [g.2.2.2.2.1] 36]++A) (fun g R=>z0l N m g.1 g.2.1 g.2.2.1=some C∧ORep ww R g.2.2.2.1 d g.2.1∧capOf d=g.2.1.length∧ORep (zy .i64) R g.2.2.2.2.2.1 g.2.2.2.2.1 g.2.2.1∧True) (fun g=>g.1) (N,(up (mk (↑m.rows.length:Int) false) s true),([s]:List Int),aU,av,aW,aY) ⟨rfl,trivial⟩ ⟨[],(pk 2 rfl (pk 2 rfl (pk 1 rfl (pk 0 rfl (List.Perm.refl _)))))⟩ ⟨a,aV,((ag.trans List.length_replicate.symm).trans List.length_set.symm),ai,trivial⟩ (fun _=>rfl) ?_))
 clear a;rintro⟨Q,aw,n,aj,ak,al,t⟩ bg bh bC aZ y ⟨a,ax,W,u,_⟩;rcases Q with _|Q;exact j6 a;replace a:z0l N m (Q+1) aw n=some C:=a;rw [z0l] at a
 refine q9 (zo (zi (zf (i:=3) z5z rfl rfl rfl) (zi (ow rfl underlying36 rfl u) (zi (z08 rfl rfl) (z8 (qa rfl a (fun a=>?_) (fun a=>?_)))))));refine qc (q9 (zz (zo (zi (zf (i:=3) z5z rfl rfl rfl) (zi (zf (i:=3) z5z rfl rfl rfl) (zi (ow rfl underlying36 rfl u) ?_))))))
 obtain⟨a0,a⟩:=za a;refine zi (z1g rfl rfl a0) ?_;obtain⟨am,a⟩:=za a;refine ku (i:=((↑n.length:Int)-1).toNat) rfl dz rfl u (zb rfl am.1) (zn am) fun bD a1=>?_;refine lg (i:=((↑n.length:Int)-1).toNat) (j:=2) rfl ty3 u rfl rfl a1 (zn am) fun bE a2=>?_;obtain rfl:=qj.1 a2
 refine zm (vi (ix n ((↑n.length:Int)-1))) (j4 (zi (zf (i:=3) z5z rfl rfl rfl) (zi (zf (i:=3) z5z rfl rfl rfl) (zi (ow rfl underlying36 rfl u) ?_))));obtain⟨a3,a⟩:=za a;refine zi (z1g rfl rfl a3) ?_;obtain⟨S,a⟩:=za a
 refine zg8 (v:=ak) (lo:=(0:Int).toNat) (hi:=((↑n.length:Int)-1).toNat) (mx:=(capOf ak)) rfl dz rfl u (.inl ⟨rfl,rfl⟩) (.inr ⟨_,congrArg some (zb rfl (zgo S))⟩) (.inl ⟨rfl,rfl⟩) (zgm S) (z8c S) (Nat.le_trans (z8c S) (ziu u)) (Nat.le_refl _) fun an ao a4=>?_
 refine ql (i:=3) (vs:=[an]) zew rfl rfl (ui ao) rfl rfl rfl (qb (uq ao) qy) ?_;refine j4 (zi (ko z1i rfl rfl (h5.mono y) (ae.mono (af.trans y))) (zl (vi (ix n ((↑n.length:Int)-1))) ?_));obtain⟨bF,a5,a⟩:=zu a
 refine jl rfl zm4 rfl (z0b (ae.mono (af.trans y)) a5) fun bG bH E a6=>?_;obtain⟨bI,bJ,rfl,a7,a8⟩:=a6;refine z8 (zz ?_);obtain⟨ay,a9,a⟩:=zu a
 refine z3f (Oc:=[box l [d] 88,aj,al,box t [an] 36]) (Or:=A) _ (fun(s:List Bool×List Int) R O=> ∃ (o:Frag) (p:Value) (q:Frag),(∃ J,O.Perm (J++[box l [d] 88,o,box t [p] 36,q]))∧ORep ww R o d s.1∧capOf d=s.1.length∧ORep (zy .i64) R q p s.2∧True) (fun(s:List Bool×List Int) (c:Code) R O=>False) _ _ rfl zn5 (ig (N:=N) a7 a8) (List.Perm.refl _) (by decide) (by rintro _ _ _ rfl;rfl) (by rintro s R2 R3 O2 az ⟨o,p,q,hJ,w,z,U,_⟩;exact⟨o,p,q,hJ,w.mono az,z,U.mono az,trivial⟩) (fun _ _ _ _ _ _ h=>h) (fun _ _ _ _ _ h=>h.elim) ⟨aj,an,al,⟨[],(pk 0 rfl (pk 0 rfl (pk 1 rfl (pk 0 rfl (List.Perm.refl _)))))⟩,(ax.mono E),W,(ao.mono E),trivial⟩ a9 ?_ ?_ ?_
 rintro b ba bK bL bi bM bj bk bl aB ⟨o,p,q,⟨_,hJ⟩,w,z,U,_⟩ Z bN;have f:=Z;clear Z;(try dsimp only at f);refine z05 (fe hJ) ?_;obtain rfl:=aB;refine zt (jc rfl zg4 fun F=>?_)
 refine ql (i:=0) (vs:=[(vi b.fA),(vi b.fB)]) zdl rfl rfl rfl rfl rfl rfl (qb rfl (qb rfl qy)) ?_;refine z8 ?_;refine⟨rfl,rfl,(RH.le.refl _),[box F [(vi b.fA),(vi b.fB)] 86,box l [d] 88,o,box t [p] 36,q],List.Perm.refl _,fun bO=>?_⟩
 refine zz (zo (zi (zf (i:=1) zez rfl rfl rfl) (zi (qd z4e rfl) (zi (zf (i:=0) ag3 rfl rfl rfl) ?_))));obtain⟨ap,f⟩:=za f;refine ku (i:=b.fB.toNat) rfl z88 rfl w (zb rfl ap.1) (zn ap) fun bP bb=>?_;refine lg (i:=b.fB.toNat) (j:=2) rfl ty4 w rfl rfl bb (zn ap) fun bm aC=>?_
 obtain rfl:=yl.1 aC;refine zi (tu rfl) (z8 (qa rfl f (fun f=>?_) (fun f=>?_)));refine zo (zi (zf (i:=1) zez rfl rfl rfl) (zi (qd z4e rfl) (zi (zf (i:=0) ag3 rfl rfl rfl) ?_)));obtain⟨G,f⟩:=za f;refine ku (i:=b.fB.toNat) rfl z88 rfl w (zb rfl G.1) (zn G) fun bn aD=>?_
 refine p8 (i:=b.fB.toNat) (j:=2) ty4 w rfl rfl aD (zn G) rfl (yl.2 rfl) fun aa aE=>?_
 refine z8 (zt (zi (zf (i:=3) z5z rfl rfl rfl) (zi (qd z4e rfl) (zi (zf (i:=0) ag3 rfl rfl rfl) (bv (T:=(zy .i64)) (X:=([b.fB]:List Int)) (ps:=[(0,(vi b.fB))]) (css:=[[(vi b.fB)]]) rfl underlying36 zo3 rfl rfl (jv ⟨rfl,trivial⟩) rfl rfl (by decide) fun aF bo V aG=>?_)))))
 refine u7 (i:=0) rfl aG fun aH x aI=>?_;have aJ:VRep (tSl true (zy .i64)) aH aF ([b.fB]:List Int):=(z0d aI V);obtain⟨ab,f⟩:=za f
 refine gq (i:=4) (X:=ba.2) (Y:=([b.fB]:List Int)) rfl underlying36 zo3 rfl rfl rfl (U.mono x) (je (Sub.v (B:=(tSl false (zy .i64))) (uh Sub.refl (fun _=>rfl)) aJ)) ab.1 ab.2 fun H ac I=>?_;refine ql (i:=3) (vs:=[H]) zew rfl rfl (ui I) rfl rfl rfl (qb (uq I) qy) ?_;refine z8 ?_
 obtain⟨rfl,rfl⟩:=Prod.mk.inj (Option.some.inj f);exact⟨rfl,x,[box F [(vi b.fA),(vi b.fB)] 86,box l [d] 88,aa,box t [H] 36,ac],List.Perm.refl _,rfl,⟨aa,H,ac,⟨[box F [(vi b.fA),(vi b.fB)] 86],(List.Perm.refl _)⟩,(aE.mono x),(z.trans List.length_set.symm),I,trivial⟩⟩;refine qc ?_
 obtain⟨rfl,rfl⟩:=Prod.mk.inj (Option.some.inj f);exact⟨rfl,(RH.le.refl _),[box F [(vi b.fA),(vi b.fB)] 86,box l [d] 88,o,box t [p] 36,q],List.Perm.refl _,rfl,⟨o,p,q,⟨[box F [(vi b.fA),(vi b.fB)] 86],(List.Perm.refl _)⟩,w,z,U,trivial⟩⟩
 rintro bp bq bc aq ⟨aK,K,aL,⟨_,hJ⟩,aM,ar,L,_⟩;refine⟨_,_,hJ,?_⟩;refine zo (zi (zf (i:=2) z5z rfl rfl rfl) (z8 (zt (jc rfl zoe fun aN=>?_))));refine ql (i:=0) (vs:=[K]) zew rfl rfl (ui L) rfl rfl rfl (qb (uq L) qy) ?_;refine z8 ?_
 exact⟨(fun e=>nomatch e),(E.trans aq),jr,(Q,ay.1,ay.2,aK,K,aL,aN),Nat.lt_succ_self _,⟨rfl,trivial⟩,⟨[box t [K] 36],(pk 3 rfl (pk 1 rfl (pk 1 rfl (pk 1 rfl (pk 0 rfl (List.Perm.refl _))))))⟩,a,aM,ar,L,trivial⟩;exact fun _ _ _ _ _ h=>h.elim;refine jm ?_
 exact⟨(fun e=>nomatch e),y,jr,(aw,aj),trivial,⟨[al,box t [ak] 36],(pk 2 rfl (pk 2 rfl (pk 0 rfl (pk 0 rfl (List.Perm.refl _)))))⟩,(Option.some.inj a).symm,ax,W,trivial⟩;rintro⟨C,bQ⟩ br bs bR be aO ⟨rfl,bf,aP,_⟩;refine zo (zi (zf (i:=0) zez rfl rfl rfl) (zm d (z8 (tq (i:=1) rfl bf fun aQ au aR=>?_))))
 have aS:VRep (tSl true ww) aQ d C:=(z0d aR aP);refine qw ?_;obtain rfl:=Option.some.inj k;refine qh (D:=[]) (J:=[box l [d] 88]) (rs:=[.tmp 4]) (vs:=[d]) ((af.trans aO).trans au) rfl rfl ⟨rfl,trivial⟩ ?_;exact⟨rfl,aS⟩
theorem q4j:Enters prog 64:=enters_of func64 rfl (by kernel_rfl)
theorem zyw{a:Bool}:TyOk prog 88 (tSl a ww):=by
 obtain⟨i,hi,b⟩: ∃ i,prog.info? 88=some i∧i.size=1:=jf (by kernel_rfl);exact ib underlying88 hi rfl b
theorem zxa{a:Bool}:SlOk prog 113 88 (tSl a ww):=⟨underlying113,zyw⟩
theorem zdp{N:Nat}{R:RH}{m:Mach}{aa:Value}(ab:VRep (jg false false) R aa m){r:(List Int)}(w:z5s N m=some r):CallP prog 36 #[aa] R (fun v R'=>VRep (tSl true (zy .i64)) R' v r):=by
 refine qp (args:=[aa]) func36 rfl rfl fun A=>?_;rw [z5s] at w;refine zo (y5 (T:=(jg false false)) rfl rfl rfl ab fun v1 R3 ac h5 h2=>?_);refine zm vs0 (j4 (jq rfl dx vw rfl h2 fun v6 h7=>?_));refine j3 rfl z4r rfl h7 fun v8 h9=>?_;refine zi (qx rfl underlying25 rfl (je h9)) ?_
 obtain⟨M,w⟩:=za w;refine z2m (T:=(tSl true ww)) (m:=(↑m.rows.length:Int).toNat) (c:=(↑m.rows.length:Int).toNat) rfl underlying113 q52 (zb rfl M.1) (zb rfl M.1) (Nat.le_refl _) (z3v M) (z3u M) fun s aT ad ap=>?_;refine zm s (z8 ?_);obtain⟨d,e,w⟩:=zu w
 refine jb (γ:=(List (List Bool))×Frag) (rs [4,5,11,23]) (fun g=>[]) (fun g=>[g.2]++A) (fun g R=>d=g.1∧ORep (tSl true ww) R g.2 s g.1∧capOf s=g.1.length∧True) ?_ ?_
 refine zo (zl s (zi (ow rfl underlying113 rfl ap) (zl (vi 0) (z8 (zz (ky (γ:=Nat×Int×(List (List Bool))×Frag) (rs [4,5,13,23]) (fun g=>[(13,(vi g.2.1))]) (fun g=>[g.2.2.2]++A) (fun g R=>ry N m g.1 g.2.1 g.2.2.1=some d∧ORep (tSl true ww) R g.2.2.2 s g.2.2.1∧capOf s=g.2.2.1.length∧True) (fun g=>g.1) (N,0,(mk (↑m.rows.length:Int) ([]:List Bool)),aT) prm ⟨e,ap,(ad.trans List.length_replicate.symm),trivial⟩ ?_))))))
 clear e;rintro⟨O,x,ae,aU⟩ cd ce F ⟨e,af,W,_⟩;rcases O with _|O;exact j6 e;replace e:ry N m (O+1) x ae=some d:=e;rw [ry] at e;refine zo (zi (jk rfl rfl) (z8 (q9 (qa rfl e (fun e=>?_) (fun e=>?_)))))
 refine qc (q9 (zz (zo (zl (vi x) (zm (vi x) (z8 (zt (zl s (zl (vi x) (zi (ko z1i rfl rfl (h5.mono F) (ab.mono (ac.trans F))) (zl (vi x) ?_)))))))))));obtain⟨aV,aW,e⟩:=zu e;refine jl rfl q4j rfl (zka (ab.mono (ac.trans F)) aW) fun cf cg G aX=>?_
 obtain⟨ag,e⟩:=za e;refine ku (i:=x.toNat) rfl zxa rfl (af.mono G) (zb rfl ag.1) (zn ag) fun ch aY=>?_;refine p8 (i:=x.toNat) (j:=0) zyw (af.mono G) rfl rfl aY (zn ag) rfl aX fun ah aZ=>?_;refine z8 (zt ?_);obtain⟨a0,e⟩:=za e
 refine zi (ji rfl rfl a0) (zl (vi (x+1)) (z8 ?_));exact⟨dkt,G,jr,(O,x+1,(up ae x aV),ah),Nat.lt_succ_self _,⟨rfl,trivial⟩,prm,e,aZ,(W.trans List.length_set.symm),trivial⟩;refine jm ?_;exact⟨dkt,F,jr,(ae,aU),trivial,prm,(Option.some.inj e).symm,af,W,trivial⟩;rintro⟨d,P⟩ ci cj X ⟨rfl,Q,bc,_⟩
 refine zo (jq rfl dx vw rfl (h2.mono X) fun ck a1=>?_);refine j3 rfl z4r rfl a1 fun cl a2=>?_;refine zi (qx rfl underlying25 rfl (je a2)) ?_;obtain⟨S,w⟩:=za w
 refine z2m (T:=(zy .i64)) (m:=(↑m.rows.length:Int).toNat) (c:=(↑m.rows.length:Int).toNat) rfl underlying36 zo3 (zb rfl S.1) (zb rfl S.1) (Nat.le_refl _) (z3v S) (z3u S) fun k a3 ai aq=>?_;refine zm k (z8 ?_);obtain⟨H,e,w⟩:=zu w
 refine jb (γ:=(List Int)×Frag) (rs [6,7,27,63]) (fun g=>[]) (fun g=>[g.2]++A) (fun g R=>H=g.1∧ORep (zy .i64) R g.2 k g.1∧capOf k=g.1.length∧True) ?_ ?_
 refine zo (zl k (zi (ow rfl underlying36 rfl aq) (zl (vi 0) (z8 (zz (ky (γ:=Nat×Int×(List Int)×Frag) (rs [6,7,29,63]) (fun g=>[(29,(vi g.2.1))]) (fun g=>[P,g.2.2.2]++A) (fun g R=>z0e N m d g.1 g.2.1 g.2.2.1=some H∧ORep (zy .i64) R g.2.2.2 k g.2.2.1∧capOf k=g.2.2.1.length∧True) (fun g=>g.1) (N,0,(mk (↑m.rows.length:Int) (0:Int)),a3) ⟨[],(pk 1 rfl (pk 0 rfl (List.Perm.refl _)))⟩ ⟨e,aq,(ai.trans List.length_replicate.symm),trivial⟩ ?_))))))
 clear e;rintro⟨U,a,aj,ar⟩ be cm C ⟨e,au,Y,_⟩;rcases U with _|U;exact j6 e;replace e:z0e N m d (U+1) a aj=some H:=e;rw [z0e] at e;refine zo (zi (jk rfl rfl) (z8 (q9 (qa rfl e (fun e=>?_) (fun e=>?_)))));refine qc ?_;obtain⟨I,n,e⟩:=zu e
 refine jb (γ:=(List Int)×Frag) (rs [6,7,31,62]) (fun g=>[]) (fun g=>[P,g.2]++A) (fun g R=>I=g.1∧ORep (zy .i64) R g.2 k g.1∧capOf k=g.1.length∧True) ?_ ?_
 refine zz (zo (zl (vi a) (zm (vi a) (z8 (zz (ky (γ:=Nat×(List Int)×Frag) (rs [32,62]) (fun g=>[]) (fun g=>[P,g.2.2]++A) (fun g R=>rz N d a g.1 g.2.1=some I∧ORep (zy .i64) R g.2.2 k g.2.1∧capOf k=g.2.1.length∧True) (fun g=>g.1) (N,aj,ar) prm ⟨n,au,Y,trivial⟩ ?_))))));clear n
 rintro⟨V,b,a4⟩ bf cn E ⟨n,z,Z,_⟩;rcases V with _|V;exact j6 n;replace n:rz N d a (V+1) b=some I:=n;rw [rz] at n;refine q9 (q9 ?_);obtain⟨ak,al,av,am,an,aw,n⟩:=q3i n
 refine ou 24 [] [phX s,phX (vi a),(fun u _=>z0v (tSl true ww) s d u a.toNat),phR (tSl true ww) (ix d a),phX k,phX (vi a),(fun u _=>z0v (zy .i64) k b u a.toNat),phX (vi (ix b a)),phP ww (ix (ix d a) (ix b a)),phX (.bool (ix (ix d a) (ix b a))),phX (.bool (!(ix (ix d a) (ix b a)))),phX (.bool (!(ix (ix d a) (ix b a)))),phG (true&&((!(ix (ix d a) (ix b a)))==false)) (phX s),phG (true&&((!(ix (ix d a) (ix b a)))==false)) (phX k),phG (true&&((!(ix (ix d a) (ix b a)))==false)) (phX (vi a)),phG (true&&((!(ix (ix d a) (ix b a)))==false)) ((fun u _=>z0v (zy .i64) k b u a.toNat)),phG (true&&((!(ix (ix d a) (ix b a)))==false)) (phX (vi (ix b a))),phG (true&&((!(ix (ix d a) (ix b a)))==false)) ((fun u _=>z0v (tSl true ww) s d u (ix b a).toNat)),phG (true&&((!(ix (ix d a) (ix b a)))==false)) (phR (tSl true ww) (ix d (ix b a))),phG (true&&((!(ix (ix d a) (ix b a)))==false)) (phX (vi a)),phG (true&&((!(ix (ix d a) (ix b a)))==false)) (phP ww (ix (ix d (ix b a)) a)),phG (true&&((!(ix (ix d a) (ix b a)))==false)) (phX (.bool (ix (ix d (ix b a)) a))),phG (true&&((!(ix (ix d a) (ix b a)))==false)) (phX (.bool (!(ix (ix d (ix b a)) a)))),phX (.bool ((!(ix (ix d a) (ix b a)))||(!(ix (ix d (ix b a)) a))))] mixed (by kernel_rfl) (ng ⟨zq,zq,(fun _ _ _ _ h=>h),l9,zq,zq,(fun _ _ _ _ h=>h),zq,oh,zq,zq,zq,(qz zq),(qz zq),(qz zq),(qz (fun _ _ _ _ h=>h)),(qz zq),(qz (fun _ _ _ _ h=>h)),(qz l9),(qz zq),(qz oh),(qz zq),(qz zq),zq,trivial⟩) ⟨?_,?_,?_,?_,?_,?_,?_,?_,?_,?_,?_,?_,?_,?_,?_,?_,?_,?_,?_,?_,?_,?_,?_,?_,trivial⟩ fun co t=>?_
 intro l cp f p hd;exact ze rfl rfl rfl (zx (zg (p 3 rfl)));intro l cq f p hd;exact ze rfl rfl rfl (zx (zg (p 6 rfl)));rintro l cr f p ⟨o,y,_⟩;exact ze rfl rfl rfl (z04 (i:=a.toNat) zxa (o rfl) ((Q.mono (C.trans E)).mono f) (zb (y rfl) ak.1) (zn ak));rintro l cs f p ⟨o,_⟩
 exact ze rfl rfl rfl (z8p (i:=a.toNat) (j:=0) zyw ((Q.mono (C.trans E)).mono f) rfl rfl (o rfl) (zn ak));intro l ct f p hd;exact ze rfl rfl rfl (zx (zg (p 5 rfl)));intro l cu f p hd;exact ze rfl rfl rfl (zx (zg (p 6 rfl)));rintro l cv f p ⟨o,y,_⟩
 exact ze rfl rfl rfl (z04 (i:=a.toNat) dz (o rfl) (z.mono f) (zb (y rfl) al.1) (zn al));rintro l cw f p ⟨o,_⟩;exact ze rfl rfl rfl (uj (z8p (i:=a.toNat) (j:=1) ty3 (z.mono f) rfl rfl (o rfl) (zn al)) (fun _ _ h=>qj.1 h));rintro l cx f p ⟨o,y,_⟩
 exact ze rfl rfl rfl (fu (i:=(ix b a).toNat) z88 rfl (je (o rfl)) (zb (y rfl) av.1) (zn av));rintro l cy f p ⟨o,_⟩;have ah:=o rfl;exact ze rfl rfl rfl (uj (uw ty4 rfl ah) (fun _ _ h=>yl.1 h));rintro l bg f p ⟨o,_⟩;exact ze rfl rfl rfl (zx (tu (o rfl)));rintro l bh f p ⟨o,_⟩
 exact ze rfl rfl rfl (zx (zg (o rfl)));rintro l bi f p ⟨o,_⟩;exact zw (Gj:=true) (Bj:= !(ix (ix d a) (ix b a))) rfl rfl rfl (ul (o rfl)) rfl (fun B q=>zx (zg (p 3 rfl)));rintro l bj f p ⟨o,_⟩
 exact zw (Gj:=true) (Bj:= !(ix (ix d a) (ix b a))) rfl rfl rfl (ul (o rfl)) rfl (fun B q=>zx (zg (p 5 rfl)));rintro l bk f p ⟨o,_⟩;exact zw (Gj:=true) (Bj:= !(ix (ix d a) (ix b a))) rfl rfl rfl (ul (o rfl)) rfl (fun B q=>zx (zg (p 6 rfl)));rintro l bl f p ⟨o,y,d2,_⟩
 exact zw (Gj:=true) (Bj:= !(ix (ix d a) (ix b a))) rfl rfl rfl (ul (d2 rfl)) rfl (fun B q=>z04 (i:=a.toNat) dz (show l 45=k from(o rfl).1 (zk rfl q)) (z.mono f) (zb (show l 46=(vi a) from(y rfl).1 (zk rfl q)) (am (zk B q)).1) (zn (am (zk B q))));rintro l bm f p ⟨o,y,_⟩
 exact zw (Gj:=true) (Bj:= !(ix (ix d a) (ix b a))) rfl rfl rfl (ul (y rfl)) rfl (fun B q=>uj (z8p (i:=a.toNat) (j:=1) ty3 (z.mono f) rfl rfl ((o rfl).1 (zk rfl q)) (zn (am (zk B q)))) (fun _ _ h=>qj.1 h));rintro l bn f p ⟨o,y,d2,_⟩
 exact zw (Gj:=true) (Bj:= !(ix (ix d a) (ix b a))) rfl rfl rfl (ul (d2 rfl)) rfl (fun B q=>z04 (i:=(ix b a).toNat) zxa (show l 44=s from(o rfl).1 (zk rfl q)) ((Q.mono (C.trans E)).mono f) (zb (show l 48=(vi (ix b a)) from(y rfl).1 (zk rfl q)) (an (zk B q)).1) (zn (an (zk B q))))
 rintro l bo f p ⟨o,y,_⟩;exact zw (Gj:=true) (Bj:= !(ix (ix d a) (ix b a))) rfl rfl rfl (ul (y rfl)) rfl (fun B q=>z8p (i:=(ix b a).toNat) (j:=0) zyw ((Q.mono (C.trans E)).mono f) rfl rfl ((o rfl).1 (zk rfl q)) (zn (an (zk B q))));rintro l bp f p ⟨o,_⟩
 exact zw (Gj:=true) (Bj:= !(ix (ix d a) (ix b a))) rfl rfl rfl (ul (o rfl)) rfl (fun B q=>zx (zg (p 6 rfl)));rintro l bq f p ⟨o,y,d2,_⟩
 exact zw (Gj:=true) (Bj:= !(ix (ix d a) (ix b a))) rfl rfl rfl (ul (d2 rfl)) rfl (fun B q=>fu (i:=a.toNat) z88 rfl (je ((o rfl).1 (zk rfl q))) (zb (show l 51=(vi a) from(y rfl).1 (zk rfl q)) (aw (zk B q)).1) (zn (aw (zk B q))));rintro l br f p ⟨o,y,_⟩
 exact zw (Gj:=true) (Bj:= !(ix (ix d a) (ix b a))) rfl rfl rfl (ul (y rfl)) rfl (fun B q=>uj (uw ty4 rfl ((o rfl).1 (zk rfl q))) (fun _ _ h=>yl.1 h));rintro l bs f p ⟨o,y,_⟩
 exact zw (Gj:=true) (Bj:= !(ix (ix d a) (ix b a))) rfl rfl rfl (ul (y rfl)) rfl (fun B q=>zx (tu (show l 53=(.bool (ix (ix d (ix b a)) a)) from(o rfl).1 (zk rfl q))));rintro l bt f p ⟨o,y,_⟩
 exact ze rfl rfl rfl (zx (z2k (o rfl) rfl (fun hb=>(show l 54=(.bool (!(ix (ix d (ix b a)) a))) from(y rfl).1 (zk rfl hb)))));intro cA a6 cB a7 cC bu bv bw bx ay bz az bA bB bC aA bD bE bF aB bG aC bH aD bI bJ bK bL bM bN bO bP bQ bR bS bT bU bV bW bX bY bZ b0 b1 b2 b3 b4 aE
 obtain rfl:=Eq.symm a6;obtain rfl:=Eq.symm a7;obtain rfl:=Eq.symm ay;obtain rfl:=Eq.symm az;obtain rfl:=Eq.symm aA;obtain rfl:=Eq.symm aB;obtain rfl:=Eq.symm aC;obtain rfl:=Eq.symm aD;obtain rfl:=Eq.symm aE;refine z8 (qa rfl n (fun n=>?_) (fun n=>?_));refine qc (zz (zt (zl k (zl (vi a) ?_))))
 obtain⟨K,n⟩:=za n;refine ku (i:=a.toNat) rfl dz rfl (z.mono t) (zb rfl K.1) (zn K) fun b5 aF=>?_;refine lg (i:=a.toNat) (j:=1) rfl ty3 (z.mono t) rfl rfl aF (zn K) fun b6 aG=>?_;obtain rfl:=qj.1 aG;obtain⟨aH,n⟩:=za n;refine zi (ji rfl rfl aH) ?_
 obtain⟨L,n⟩:=za n;refine ku (i:=a.toNat) rfl dz rfl (z.mono t) (zb rfl L.1) (zn L) fun b7 aI=>?_;refine p8 (i:=a.toNat) (j:=1) ty3 (z.mono t) rfl rfl aI (zn L) rfl (qj.2 rfl) fun aJ aK=>?_;refine z8 ?_
 exact⟨dkt,t,jr,(V,(up b a ((ix b a)+1)),aJ),Nat.lt_succ_self _,trivial,prm,n,aK,(Z.trans List.length_set.symm),trivial⟩;refine jm ?_;exact⟨dkt,(E.trans t),jr,(b,a4),trivial,prm,(Option.some.inj n).symm,(z.mono t),Z,trivial⟩;rintro⟨I,a8⟩ b8 cD aL ⟨rfl,a9,aM,_⟩;refine zt ?_
 obtain⟨aN,e⟩:=za e;refine zi (ji rfl rfl aN) (zl (vi (a+1)) (z8 ?_));exact⟨dkt,aL,jr,(U,a+1,I,a8),Nat.lt_succ_self _,⟨rfl,trivial⟩,prm,e,a9,aM,trivial⟩;refine jm ?_;exact⟨dkt,C,jr,(aj,ar),trivial,⟨[P],(List.Perm.refl _)⟩,(Option.some.inj e).symm,au,Y,trivial⟩
 rintro⟨H,cE⟩ b9 cF aO ⟨rfl,ba,aP,_⟩;refine zo (zl k (zm k (z8 (tq (i:=0) rfl ba fun aQ ao aR=>?_))));have aS:VRep (tSl true (zy .i64)) aQ k H:=(z0d aR aP);refine qw ?_;obtain rfl:=Option.some.inj w
 refine qh (D:=[]) (J:=[]) (rs:=[.tmp 2]) (vs:=[k]) (((ac.trans X).trans aO).trans ao) rfl rfl ⟨rfl,trivial⟩ ?_;exact⟨rfl,aS⟩
theorem q2r:Enters prog 36:=enters_of func36 rfl (by kernel_rfl)
theorem z9u{N:Nat}{R:RH}{s:(List Int)}{a:Value}(b:VRep (tSl false (zy .i64)) R a s){r:(List Int)}(c:z1p N s=some r):CallP prog 37 #[a] R (fun v R'=>VRep (tSl true (zy .i64)) R' v r):=by
 refine qp (args:=[a]) func37 rfl rfl fun A=>?_;rw [z1p] at c;refine zo (zm vs0 (j4 (zl a (zl a (zi (qx rfl underlying36 rfl (je b)) (zl a (zi (qx rfl underlying36 rfl (je b)) ?_)))))));obtain⟨d,c⟩:=za c
 refine zdg (v:=a) (lo:=(0:Int).toNat) (hi:=(↑s.length:Int).toNat) (mx:=(↑s.length:Int).toNat) rfl dz rfl (je b) (.inl ⟨rfl,rfl⟩) (.inr ⟨_,congrArg some (zb rfl (zgo d))⟩) (.inr ⟨_,congrArg some (zb rfl (zgo d))⟩) (zgm d) (z8c d) (Nat.le_refl _) (Nat.le_trans (z8c d) (ztl (je b))) (X':=(cut s 0 (↑s.length:Int))) rfl fun f g e=>?_
 have h:VRep (tSl true (zy .i64)) R f (cut s 0 (↑s.length:Int)):=z0d g (e.trans (zs4 d).symm);refine zm f (z8 (qw ?_));obtain rfl:=Option.some.inj c;refine qh (D:=[]) (J:=[]) (rs:=[.tmp 2]) (vs:=[f]) (RH.le.refl _) rfl rfl ⟨rfl,trivial⟩ ?_;exact⟨rfl,h⟩
theorem q4b:Enters prog 37:=enters_of func37 rfl (by kernel_rfl)
theorem zea{N:Nat}{R:RH}{s:(List (List Int))}{a:Value}(b:VRep (tSl false (tSl true (zy .i64))) R a s){r:(List (List Int))}(c:z6u N s=some r):CallP prog 38 #[a] R (fun v R'=>VRep (tSl true (tSl true (zy .i64))) R' v r):=by
 refine qp (args:=[a]) func38 rfl rfl fun A=>?_;rw [z6u] at c;refine zo (zm vs0 (j4 (zl a (zl a (zi (qx rfl underlying30 rfl (je b)) (zl a (zi (qx rfl underlying30 rfl (je b)) ?_)))))));obtain⟨d,c⟩:=za c
 refine zdg (v:=a) (lo:=(0:Int).toNat) (hi:=(↑s.length:Int).toNat) (mx:=(↑s.length:Int).toNat) rfl z8a rfl (je b) (.inl ⟨rfl,rfl⟩) (.inr ⟨_,congrArg some (zb rfl (zgo d))⟩) (.inr ⟨_,congrArg some (zb rfl (zgo d))⟩) (zgm d) (z8c d) (Nat.le_refl _) (Nat.le_trans (z8c d) (ztl (je b))) (X':=(cut s 0 (↑s.length:Int))) rfl fun f g e=>?_
 have h:VRep (tSl true (tSl true (zy .i64))) R f (cut s 0 (↑s.length:Int)):=z0d g (e.trans (zs4 d).symm);refine zm f (z8 (qw ?_));obtain rfl:=Option.some.inj c;refine qh (D:=[]) (J:=[]) (rs:=[.tmp 2]) (vs:=[f]) (RH.le.refl _) rfl rfl ⟨rfl,trivial⟩ ?_;exact⟨rfl,h⟩
theorem q4v:Enters prog 38:=enters_of func38 rfl (by kernel_rfl)
theorem zdo{N:Nat}{R:RH}{m:Mach}{S:Value}(p:VRep (jg false false) R S m){r:(List (List Int))×Int}(d:z9n N m=some r):CallP prog 13 #[S] R (fun v R'=> ∃ u0,v= .tuple #[u0,(vi r.2)]∧VRep (tSl true (tSl true (zy .i64))) R' u0 r.1):=by
 refine qp (args:=[S]) func13 rfl rfl fun A=>?_;rw [z9n] at d;refine zo (y5 (T:=(jg false false)) rfl rfl rfl p fun v1 R3 o h5 h2=>?_);refine zm vs0 (zm (vi 0) (z8 (q9 (zo (zi (ko z1i rfl rfl h5 (p.mono o)) ?_)))));obtain⟨y6,c7,d⟩:=zu d
 refine jl rfl zwg rfl (z5f (p.mono o) c7) fun v8 bi j h9=>?_;obtain rfl:=h9;refine zm (vi y6) (j4 (zl (vi y6) (zi (ai rfl rfl) (z8 (qa rfl d (fun d=>?_) (fun d=>?_))))));refine zo (zl (vi y6) (zm vs0 (zm (vi y6) (z8 (qw ?_)))));obtain rfl:=Option.some.inj d
 refine qh (D:=[]) (J:=[]) (rs:=[.tmp 2,.tmp 3]) (vs:=[vs0,(vi y6)]) (o.trans j) rfl rfl ⟨rfl,rfl,trivial⟩ ?_;exact⟨rfl,⟨vs0,rfl,z0o⟩⟩;refine qc (zo (zi (ko z1i rfl rfl (h5.mono j) (p.mono (o.trans j))) ?_));obtain⟨k,aM,d⟩:=zu d
 refine jl rfl q2r rfl (zdp (p.mono (o.trans j)) aM) fun U bk ah E=>?_;refine zm U (j4 (zm vs0 (z8 ?_)));obtain⟨q,a,d⟩:=zu d
 refine jb (γ:=(List (List Int))×Value×Frag) (rs [6,12,19,50]) (fun g=>[(6,g.2.1)]) (fun g=>[g.2.2]++A) (fun g R=>q=g.1∧ORep (tSl true (zy .i64)) R g.2.2 g.2.1 g.1∧True) ?_ ?_;refine zo (zl U (zi (qx rfl underlying36 rfl (je E)) (zl (vi 0) (z8 (zz (z4z ?_))))))
 refine ky (γ:=Nat×(List (List Int))×Int×Value×Frag) (rs [6,12,21,50]) (fun g=>[(6,g.2.2.2.1),(21,(vi g.2.2.1))]) (fun g=>[g.2.2.2.2]++A) (fun g R=>z4j N k g.1 g.2.1 g.2.2.1=some q∧ORep (tSl true (zy .i64)) R g.2.2.2.2 g.2.2.2.1 g.2.1∧True) (fun g=>g.1) (N,[],0,vs0,emp) prm ⟨a,(z0y (T:=(tSl true (zy .i64)))),trivial⟩ ?_
 clear a;rintro⟨F,s,f,V,t⟩ a9 bl l ⟨a,W,_⟩;rcases F with _|F;exact j6 a;replace a:z4j N k (F+1) s f=some q:=a;rw [z4j] at a;refine zo (zi (jk rfl rfl) (z8 (q9 (qa rfl a (fun a=>?_) (fun a=>?_)))));refine qc ?_;obtain⟨Z,e,a⟩:=zu a
 refine jb (γ:=(List (List Int))×Value×Frag) (rs [6,12,23,49]) (fun g=>[(6,g.2.1)]) (fun g=>[g.2.2]++A) (fun g R=>Z=g.1∧ORep (tSl true (zy .i64)) R g.2.2 g.2.1 g.1∧True) ?_ ?_;refine zz (zo (zl (vi f) ?_));obtain⟨aj,e⟩:=za e
 refine yj (i:=f.toNat) rfl dz rfl (je (E.mono l)) (zb rfl aj.1) (zn aj) fun bm aN=>?_;refine j3 rfl ty3 rfl aN fun bn aO=>?_;obtain rfl:=qj.1 aO
 refine zm (vi f) (zm (vi (ix k f)) (z8 (q9 (zo (zl (vi (ix k f)) (zl (vi f) (zi (ai rfl rfl) (z8 (qa rfl e (fun e=>?_) (fun e=>?_))))))))));refine jm ?_;exact⟨dkt,(RH.le.refl _),jr,(s,V,t),⟨rfl,trivial⟩,prm,(Option.some.inj e).symm,W,trivial⟩
 refine qc (zo (zm vs0 (z8 ?_)));obtain⟨u,b,e⟩:=zu e;refine jb (γ:=(List Int)×Value×Frag) (rs [9,12,29,44]) (fun g=>[(9,g.2.1)]) (fun g=>[t,g.2.2]++A) (fun g R=>u=g.1∧ORep (zy .i64) R g.2.2 g.2.1 g.1∧True) ?_ ?_
 refine zo (zl U (zi (qx rfl underlying36 rfl (je (E.mono l))) (zl (vi 0) (z8 (zz (z4z ?_))))))
 refine ky (γ:=Nat×(List Int)×Int×Value×Frag) (rs [9,12,31,44]) (fun g=>[(9,g.2.2.2.1),(31,(vi g.2.2.1))]) (fun g=>[t,g.2.2.2.2]++A) (fun g R=>z4g N k f g.1 g.2.1 g.2.2.1=some u∧ORep (zy .i64) R g.2.2.2.2 g.2.2.2.1 g.2.1∧True) (fun g=>g.1) (N,[],0,vs0,emp) ⟨[],(pk 1 rfl (pk 0 rfl (List.Perm.refl _)))⟩ ⟨b,(z0y (T:=(zy .i64))),trivial⟩ ?_
 clear b;rintro⟨G,w,c,aa,ak⟩ bo bp I ⟨b,ab,_⟩;rcases G with _|G;exact j6 b;replace b:z4g N k f (G+1) w c=some u:=b;rw [z4g] at b;refine zo (zi (jk rfl rfl) (z8 (q9 (qa rfl b (fun b=>?_) (fun b=>?_)))));refine qc ?_;obtain⟨ac,h,b⟩:=zu b
 refine jb (γ:=(List Int)×Value×Frag) (rs [9,12,33,43]) (fun g=>[(9,g.2.1)]) (fun g=>[t,g.2.2]++A) (fun g R=>ac=g.1∧ORep (zy .i64) R g.2.2 g.2.1 g.1∧True) ?_ ?_;refine zz (zo (zl (vi c) ?_));obtain⟨al,h⟩:=za h
 refine yj (i:=c.toNat) rfl dz rfl (je (E.mono (l.trans I))) (zb rfl al.1) (zn al) fun bq aP=>?_;refine j3 rfl ty3 rfl aP fun br aQ=>?_;obtain rfl:=qj.1 aQ
 refine zm (vi c) (zm (vi (ix k c)) (j4 (zl (vi (ix k c)) (zl (vi f) (zi (uu rfl rfl) (z8 (qa rfl h (fun h=>?_) (fun h=>?_))))))))
 refine zt (zl aa (zl (vi c) (bv (T:=(zy .i64)) (X:=([c]:List Int)) (ps:=[(0,(vi c))]) (css:=[[(vi c)]]) rfl underlying36 zo3 rfl rfl (jv ⟨rfl,trivial⟩) rfl rfl (by decide) fun aR bs ad aS=>?_)));refine u7 (i:=0) rfl aS fun aT K aU=>?_
 have aV:VRep (tSl true (zy .i64)) aT aR ([c]:List Int):=(z0d aU ad);obtain⟨am,h⟩:=za h;refine gq (i:=1) (X:=w) (Y:=([c]:List Int)) rfl underlying36 zo3 rfl rfl rfl (ab.mono K) (je (Sub.v (B:=(tSl false (zy .i64))) (uh Sub.refl (fun _=>rfl)) aV)) am.1 am.2 fun an aW aX=>?_;refine zm an (z8 ?_)
 exact⟨dkt,K,jr,((w++([c]:List Int)),an,aW),⟨rfl,trivial⟩,prm,(Option.some.inj h).symm,aX,trivial⟩;refine qc ?_;exact⟨dkt,(RH.le.refl _),jr,(w,aa,ak),⟨rfl,trivial⟩,prm,(Option.some.inj h).symm,ab,trivial⟩;rintro⟨ac,aY,aZ⟩ bt bu ao ⟨rfl,a0,_⟩;refine zt ?_;obtain⟨a1,b⟩:=za b
 refine zi (ji rfl rfl a1) (zl (vi (c+1)) (z8 ?_));exact⟨dkt,ao,jr,(G,ac,c+1,aY,aZ),Nat.lt_succ_self _,⟨rfl,rfl,trivial⟩,prm,b,a0,trivial⟩;refine jm ?_;exact⟨dkt,I,jr,(w,aa,ak),⟨rfl,trivial⟩,prm,(Option.some.inj b).symm,ab,trivial⟩;rintro⟨u,ap,bw⟩ bx bz L ⟨rfl,a2,_⟩
 refine zt (zl V (zl ap (u7 (i:=1) rfl a2 fun aq x ar=>?_)));have au:VRep (tSl false (zy .i64)) aq ap u:=(z6h ar);obtain⟨n,av,e⟩:=zu e;refine jl rfl q4b rfl (z9u au av) fun M ba y O=>?_
 refine bv (T:=(tSl true (zy .i64))) (X:=([n]:List (List Int))) (ps:=[(0,M)]) (css:=[[M]]) rfl underlying30 zr4 rfl (by simp only [List.map_cons,List.map_nil,z0s O];rfl) (jv ⟨(kw rfl O),trivial⟩) rfl rfl (by decide) fun aw bb H ax=>?_;refine u7 (i:=0) rfl ax fun ay z az=>?_
 have aA:VRep (tSl true (tSl true (zy .i64))) ay aw ([n]:List (List Int)):=(z0d az H);obtain⟨P,e⟩:=za e
 refine gq (i:=0) (X:=s) (Y:=([n]:List (List Int))) rfl underlying30 zr4 rfl rfl rfl (W.mono (((L.trans x).trans y).trans z)) (je (Sub.v (B:=(tSl false (tSl true (zy .i64)))) (uh Sub.refl (fun _=>rfl)) aA)) P.1 P.2 fun Q aB aC=>?_;refine zm Q (z8 ?_)
 exact⟨dkt,(((L.trans x).trans y).trans z),jr,((s++([n]:List (List Int))),Q,aB),⟨rfl,trivial⟩,prm,(Option.some.inj e).symm,aC,trivial⟩;rintro⟨Z,a3,a4⟩ bc bA aD ⟨rfl,a5,_⟩;refine zt ?_;obtain⟨aE,a⟩:=za a;refine zi (ji rfl rfl aE) (zl (vi (f+1)) (z8 ?_))
 exact⟨dkt,aD,jr,(F,Z,f+1,a3,a4),Nat.lt_succ_self _,⟨rfl,rfl,trivial⟩,prm,a,a5,trivial⟩;refine jm ?_;exact⟨dkt,l,jr,(s,V,t),⟨rfl,trivial⟩,prm,(Option.some.inj a).symm,W,trivial⟩;rintro⟨q,aF,bB⟩ be bC aG ⟨rfl,a6,_⟩;refine zo (zl aF (u7 (i:=0) rfl a6 fun aH ae aI=>?_))
 have aJ:VRep (tSl false (tSl true (zy .i64))) aH aF q:=(z6h aI);obtain⟨bf,aK,d⟩:=zu d;refine jl rfl q4v rfl (zea aJ aK) fun C bg af aL=>?_;refine zm C (zm (vi 0) (z8 (qw ?_)));obtain rfl:=Option.some.inj d
 refine qh (D:=[]) (J:=[]) (rs:=[.tmp 2,.tmp 3]) (vs:=[C,(vi 0)]) (((((o.trans j).trans ah).trans aG).trans ae).trans af) rfl rfl ⟨rfl,rfl,trivial⟩ ?_;exact⟨rfl,⟨C,rfl,aL⟩⟩
end GV
end Go.Proofs.Ytdhccodneoebpaa
