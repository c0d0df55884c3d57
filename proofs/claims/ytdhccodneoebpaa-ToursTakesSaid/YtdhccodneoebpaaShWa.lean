import Derived.Test.YtdhccodneoebpaaShPlain
import Derived.Test.YtdhccodneoebpaaRows
set_option linter.unusedVariables false
set_option linter.unusedSimpArgs false
set_option linter.unusedSectionVars false
namespace Go.Proofs.Ytdhccodneoebpaa
namespace GV
open _root_.Go.Proofs.Try
open Go.IntWalk
set_option maxRecDepth 100000
set_option maxHeartbeats 20000000
theorem zdu: ∀ w,∃ z,(zeroValue 27).run prog w= .ok z w∧z.cells=([.int .i64 0,.int .i64 0,.slice none 0 0]:List Value).toArray:=fun w=>⟨(.agg #[(vi 0),(vi 0),vs0]),by kernel_rfl,rfl⟩
theorem z4c: ∀ w,(sizeOf 27).run prog w= .ok 3 w:=fun w=>by kernel_rfl
theorem z06:FieldOk prog 27 0 0:=by
 obtain⟨i,hi,a⟩: ∃ i,prog.info? 3=some i∧i.size=1:=jv (by kernel_rfl);exact vg underlying27 rfl rfl hi (by rw [a];rfl)
theorem ag3: ∀ w,(isAgg 3).run prog w= .ok false w:=fun w=>by kernel_rfl
theorem ty4:TyOk prog 4 vw:=by
 obtain⟨i,hi,a⟩: ∃ i,prog.info? 4=some i∧i.size=1:=jv (by kernel_rfl);exact ai underlying4 hi rfl a
theorem zcs:ZeroOk prog 53 kEdge (⟨(0:Int),(0:Int)⟩:Edge) 16:=by
 obtain⟨i,zv,hi,a,c,d,f⟩:=z1c (P:=prog) (e:=53) (zv:=(.agg #[(vi 0),(vi 0)])) (k:=2) (b:=16) (by kernel_rfl);exact⟨i,zv,hi,a,c,d,fun R=>by subst f;exact⟨_,_,rfl,rfl,rfl⟩⟩
theorem zb7:FieldOk prog 27 1 1:=by
 obtain⟨i,hi,a⟩: ∃ i,prog.info? 3=some i∧i.size=1:=jv (by kernel_rfl);exact vg underlying27 rfl rfl hi (by rw [a];rfl)
theorem mixed:prog.follows .mixedOrders=true:=by kernel_rfl
theorem vz:FieldOk prog 27 2 2:=by
 obtain⟨i,hi,a⟩: ∃ i,prog.info? 25=some i∧i.size=1:=jv (by kernel_rfl);exact vg underlying27 rfl rfl hi (by rw [a];rfl)
theorem zhf{a:Bool}:ZeroOk prog 54 (tSl a kEdge) ([]:List Edge) 24:=by
 obtain⟨i,zv,hi,c,d,f,g⟩:=z1c (P:=prog) (e:=54) (zv:=vs0) (k:=1) (b:=24) (by kernel_rfl);exact⟨i,zv,hi,c,d,f,fun R=>by subst g;exact(u7 rfl aj)⟩
theorem z9v: ∀ w,(isAgg 27).run prog w= .ok true w:=fun w=>by kernel_rfl
theorem au{a b:Bool}:TyOk prog 27 (jl a b):=by
 obtain⟨i,hi,c⟩: ∃ i,prog.info? 27=some i∧i.size=3:=jv (by kernel_rfl);exact ai underlying27 hi rfl c
theorem z11{a b:Bool}:TyOk prog 25 (tSl a (tSl b kEdge)):=by
 obtain⟨i,hi,c⟩: ∃ i,prog.info? 25=some i∧i.size=1:=jv (by kernel_rfl);exact ai underlying25 hi rfl c
theorem zm7{a:Bool}:ZeroOk prog 36 (tSl a (q9 .i64)) ([]:List Int) 24:=by
 obtain⟨i,zv,hi,c,d,f,g⟩:=z1c (P:=prog) (e:=36) (zv:=vs0) (k:=1) (b:=24) (by kernel_rfl);exact⟨i,zv,hi,c,d,f,fun R=>by subst g;exact(u7 rfl aj)⟩
theorem zo4:ZeroOk prog 4 vw false 1:=by
 obtain⟨i,zv,hi,a,c,d,f⟩:=z1c (P:=prog) (e:=4) (zv:=(.bool false)) (k:=1) (b:=1) (by kernel_rfl);exact⟨i,zv,hi,a,c,d,fun R=>by subst f;exact rfl⟩
theorem zo3:ZeroOk prog 3 (q9 .i64) (0:Int) 8:=by
 obtain⟨i,zv,hi,a,c,d,f⟩:=z1c (P:=prog) (e:=3) (zv:=(vi 0)) (k:=1) (b:=8) (by kernel_rfl);exact⟨i,zv,hi,a,c,d,fun R=>by subst f;exact rfl⟩
theorem zmq: ∀ w,∃ z,(zeroValue 53).run prog w= .ok z w∧z.cells=([.int .i64 0,.int .i64 0]:List Value).toArray:=fun w=>⟨(.agg #[(vi 0),(vi 0)]),by kernel_rfl,rfl⟩
theorem ze6: ∀ w,(sizeOf 53).run prog w= .ok 2 w:=fun w=>by kernel_rfl
theorem zdp{a:Bool}:TyOk prog 54 (tSl a kEdge):=by
 obtain⟨i,hi,b⟩: ∃ i,prog.info? 54=some i∧i.size=1:=jv (by kernel_rfl);exact ai underlying54 hi rfl b
theorem zf2{a:Bool}:SlOk prog 25 54 (tSl a kEdge):=⟨underlying25,zdp⟩
theorem zj5:TyOk prog 53 kEdge:=by
 obtain⟨i,hi,a⟩: ∃ i,prog.info? 53=some i∧i.size=2:=jv (by kernel_rfl);exact ai underlying53 hi rfl a
theorem zhb:SlOk prog 54 53 kEdge:=⟨underlying54,zj5⟩
theorem zsf: ∀ w,(isAgg 53).run prog w= .ok true w:=fun w=>by kernel_rfl
theorem ty3:TyOk prog 3 (q9 .i64):=by
 obtain⟨i,hi,a⟩: ∃ i,prog.info? 3=some i∧i.size=1:=jv (by kernel_rfl);exact ai underlying3 hi rfl a
theorem bg:SlOk prog 36 3 (q9 .i64):=⟨underlying36,ty3⟩
theorem z8f:SlOk prog 88 4 vw:=⟨underlying88,ty4⟩
theorem z5g{a:Bool}:TyOk prog 36 (tSl a (q9 .i64)):=by
 obtain⟨i,hi,b⟩: ∃ i,prog.info? 36=some i∧i.size=1:=jv (by kernel_rfl);exact ai underlying36 hi rfl b
theorem z5e{a:Bool}:SlOk prog 30 36 (tSl a (q9 .i64)):=⟨underlying30,z5g⟩
theorem z6j:FieldOk prog 53 0 0:=by
 obtain⟨i,hi,a⟩: ∃ i,prog.info? 3=some i∧i.size=1:=jv (by kernel_rfl);exact vg underlying53 rfl rfl hi (by rw [a];rfl)
theorem zdq:FieldOk prog 53 1 1:=by
 obtain⟨i,hi,a⟩: ∃ i,prog.info? 3=some i∧i.size=1:=jv (by kernel_rfl);exact vg underlying53 rfl rfl hi (by rw [a];rfl)
theorem z7b{N:Nat}{R:RH}{s:(List Edge)}{c:Value}(k:VRep (tSl false kEdge) R c s){f:Edge→Option Bool}{e:Value}(n:FOk1 prog R e kEdge vw f){r:Int}(b:mg N s f=some r):CallP prog 88 #[c,e] R (fun v R'=>v=(vi r)):=by
 refine qo (args:=[c,e]) func88 rfl rfl fun A=>?_;rw [mg] at b;refine zl (zk (vi 0) (z8 ?_));obtain⟨o,a,b⟩:=zn b;refine j6 (γ:=Unit) (rs [4,19]) (fun g=>[]) (fun g=>[]++A) (fun g R=>o=Ex.go g∧True) ?_ ?_
 refine zl (zm c (zi (qm rfl underlying54 rfl (jc k)) (zm (vi 0) (z8 (zy (kg (γ:=Nat×Int) (rs [4,6,8,19]) (fun g=>[(8,(vi g.2))]) (fun g=>[]++A) (fun g R=>uo N s f g.1 g.2=some o∧True) (fun g=>g.1) (N,0) prm ⟨a,trivial⟩ ?_))))));clear a;rintro⟨m,d⟩ y H h ⟨a,_⟩
 rcases m with _|m;exact qy a;replace a:uo N s f (m+1) d=some o:=a;rw [uo] at a;refine zl (zi (jd rfl rfl) (z8 (zx (zw rfl a (fun a=>?_) (fun a=>?_)))))
 refine qc (zx (zy (zl (zm (vi d) (zk (vi d) (j4 (zm e (zm c (zm (vi d) ?_)))))))));obtain⟨l,a⟩:=zb a;refine ww (i:=d.toNat) rfl zhb rfl (jc (k.mono h)) (ze rfl l.1) (zo l) fun z p=>?_;refine qp rfl zj5 rfl p fun B q=>?_;obtain rfl:=z16.1 q
 obtain⟨C,t,a⟩:=zn a;refine zl7 rfl rfl rfl ((n.mono h) _ (RH.le.refl _) (ix s d) _ _ (z16.2 rfl) t) fun E F j u=>?_;obtain rfl:=xc.1 u;refine z8 (zw rfl a (fun a=>?_) (fun a=>?_));refine zl (zm (vi d) (zk (vi d) (z8 (ql ?_))));replace b:=z0k a b;obtain rfl:=Option.some.inj b
 refine qd (D:=[]) (J:=[]) (rs:=[.tmp 4]) (vs:=[(vi d)]) (h.trans j) rfl rfl ⟨rfl,trivial⟩ ?_;exact⟨rfl,rfl⟩;refine qc (zq ?_);obtain⟨w,a⟩:=zb a;refine zi (je rfl rfl w) (zm (vi (d+1)) (z8 ?_));exact⟨dkt,j,jr,(m,d+1),Nat.lt_succ_self _,⟨rfl,trivial⟩,prm,a,trivial⟩;refine jq ?_
 exact⟨dkt,h,jr,(),trivial,prm,(Option.some.inj a).symm,trivial⟩;rintro I G K x ⟨rfl,_⟩;replace b:=sw b;refine zl (zk (vi (-1)) (z8 (ql ?_)));obtain rfl:=Option.some.inj b;refine qd (D:=[]) (J:=[]) (rs:=[.tmp 4]) (vs:=[(vi (-1))]) x rfl rfl ⟨rfl,trivial⟩ ?_;exact⟨rfl,rfl⟩
theorem zzg:Enters prog 88:=enters_of func88 rfl (by kernel_rfl)
theorem z6h{N:Nat}{R:RH}{s:(List Edge)}{a:Value}(d:VRep (tSl false kEdge) R a s){f:Edge→Option Bool}{b:Value}(e:FOk1 prog R b kEdge vw f){r:Bool}(c:dh N s f=some r):CallP prog 82 #[a,b] R (fun v R'=>v=(.bool r)):=by
 refine qo (args:=[a,b]) func82 rfl rfl fun A=>?_;rw [dh] at c;refine zl (zk (.bool false) (j4 (zm a (zm b ?_))));obtain⟨h,i,c⟩:=zn c;refine ja rfl zzg rfl (z7b d e i) fun k l g j=>?_;obtain rfl:=j
 refine zi (z2z rfl rfl) (zk (.bool (decide (0≤h))) (z8 (ql ?_)));obtain rfl:=Option.some.inj c;refine qd (D:=[]) (J:=[]) (rs:=[.tmp 4]) (vs:=[(.bool (decide (0≤h)))]) g rfl rfl ⟨rfl,trivial⟩ ?_;exact⟨rfl,rfl⟩
theorem zyk:Enters prog 82:=enters_of func82 rfl (by kernel_rfl)
theorem zf3{N:Nat}{R:RH}  {r:Edge} (a:z8z N  =some r):CallP prog 89 #[] R (fun v R'=>v=(z2k r)):=by
 refine qo (args:=[]) func89 rfl rfl fun A=>?_;rw [z8z] at a;refine zl (jb rfl zmq fun b=>?_)
 refine j4 (zi (kw (ps:=[(0,(vi (-1))),(1,(vi (-1)))]) (v:=(.agg #[(vi (-1)),(vi (-1))])) rfl (fun w=>by kernel_rfl)) (qj (i:=0) (vs:=[(vi (-1)),(vi (-1))]) ze6 rfl rfl rfl rfl rfl rfl (qa rfl (qa rfl qw)) ?_));refine z8 (ql ?_);obtain rfl:=Option.some.inj a
 refine qd (D:=[]) (J:=[box b [(vi (-1)),(vi (-1))] 53]) (rs:=[.cell 0 53]) (vs:=[(.agg #[(vi (-1)),(vi (-1))])]) (RH.le.refl _) rfl rfl ⟨⟨_,rfl,fun w c=>z2s (i:=0) c rfl rfl zsf ze6 rfl rfl⟩,trivial⟩ ?_;exact⟨rfl,rfl⟩
theorem zya:Enters prog 89:=enters_of func89 rfl (by kernel_rfl)
theorem zy6:zs7 prog 53:=ziy (f0:=((prog.fieldsOf 53).toList.getD 0 default)) (f1:=((prog.fieldsOf 53).toList.getD 1 default)) (by kernel_rfl) (by kernel_rfl) (by kernel_rfl) (by kernel_rfl) (by kernel_rfl) (by kernel_rfl) (by kernel_rfl) (by kernel_rfl) (by kernel_rfl) (by kernel_rfl)
theorem zey{N:Nat}{R:RH}{m:Mach}{p:Value}(w:VRep (jl false false) R p m){x:Edge}{r:Bool}(n:z8y N m x=some r):CallP prog 84 #[p,(z2k x)] R (fun v R'=>v=(.bool r)):=by
 refine qo (args:=[p,(z2k x)]) func84 rfl rfl fun A=>?_;rw [z8y] at n;refine zl (uz (T:=(jl false false)) rfl rfl rfl w fun v1 R3 y h5 K=>?_);refine z6k (T:=kEdge) rfl rfl (z16.2 rfl) fun v6 R8 q t=>?_;refine zk (.bool false) (z8 (zx ?_));obtain⟨b,z,n⟩:=zn n
 let B:=((decide (x.to=b.to∧x.out=b.out))||((((decide (0≤x.to))&&(decide (x.to<(↑m.rows.length:Int))))&&(decide (0≤x.out)))&&(decide (x.out<m.outputs))));let L:=((((decide (0≤x.to))&&(decide (x.to<(↑m.rows.length:Int))))&&(decide (0≤x.out)))&&(decide (x.out<m.outputs)))
 let o:=(((decide (0≤x.to))&&(decide (x.to<(↑m.rows.length:Int))))&&(decide (0≤x.out)));let k:=((decide (0≤x.to))&&(decide (x.to<(↑m.rows.length:Int))));let e:=(true&&((decide (x.to=b.to∧x.out=b.out))==false))
 refine ma 29 [] [phX (z2k x),phX (z2k b),phX (.bool (decide (x.to=b.to∧x.out=b.out))),phX (.bool (decide (x.to=b.to∧x.out=b.out))),phG e (phP (q9 .i64) x.to),phG e (phX (vi x.to)),phG e (phX (.bool (decide (0≤x.to)))),phG e (phX (.bool (decide (0≤x.to)))),phG (e&&((decide (0≤x.to))==true)) (phP (q9 .i64) x.to),phG (e&&((decide (0≤x.to))==true)) (phX (vi x.to)),phG (e&&((decide (0≤x.to))==true)) (phP (tSl false (tSl false kEdge)) m.rows),phG (e&&((decide (0≤x.to))==true)) (phR (tSl false (tSl false kEdge)) m.rows),phG (e&&((decide (0≤x.to))==true)) (phX (vi (↑m.rows.length:Int))),phG (e&&((decide (0≤x.to))==true)) (phX (.bool (decide (x.to<(↑m.rows.length:Int))))),phG e (phX (.bool k)),phG e (phX (.bool k)),phG (e&&(k==true)) (phP (q9 .i64) x.out),phG (e&&(k==true)) (phX (vi x.out)),phG (e&&(k==true)) (phX (.bool (decide (0≤x.out)))),phG e (phX (.bool o)),phG e (phX (.bool o)),phG (e&&(o==true)) (phP (q9 .i64) x.out),phG (e&&(o==true)) (phX (vi x.out)),phG (e&&(o==true)) (phP (q9 .i64) m.outputs),phG (e&&(o==true)) (phX (vi m.outputs)),phG (e&&(o==true)) (phX (.bool (decide (x.out<m.outputs)))),phG e (phX (.bool L)),phX (.bool B),phX (.bool B)] mixed (by kernel_rfl) (pq ⟨zt,zt,zt,zt,(qx dx),(qx zt),(qx zt),(qx zt),(qx dx),(qx zt),(qx dx),(qx rf),(qx zt),(qx zt),(qx zt),(qx zt),(qx dx),(qx zt),(qx zt),(qx zt),(qx zt),(qx dx),(qx zt),(qx dx),(qx zt),(qx zt),(qx zt),zt,zt,trivial⟩) ⟨?_,?_,?_,?_,?_,?_,?_,?_,?_,?_,?_,?_,?_,?_,?_,?_,?_,?_,?_,?_,?_,?_,?_,?_,?_,?_,?_,?_,?_,trivial⟩ fun aj u=>?_
 intro l al a g hd;exact zf rfl rfl rfl (ui (ut zj5 (g 3 rfl) (t.mono a)) (fun _ _ h=>z16.1 h));intro l an a g hd;exact zf rfl rfl rfl (yh (vs:=[]) zya rfl (zf3  z) (fun _ _ h=>h));rintro l ao a g ⟨c,f,_⟩;exact zf rfl rfl rfl (zz (zqg zy6 (c rfl) (f rfl)));rintro l ap a g ⟨c,f,_⟩
 exact zf rfl rfl rfl (zz (za (c rfl)));rintro l aq a g ⟨c,_⟩;exact zu (Gj:=true) (Bj:=decide (x.to=b.to∧x.out=b.out)) rfl rfl rfl (uf (c rfl)) rfl (fun i d=>ae z6j z9c (g 3 rfl) (t.mono a));rintro l ar a g ⟨c,f,_⟩
 exact zu (Gj:=true) (Bj:=decide (x.to=b.to∧x.out=b.out)) rfl rfl rfl (uf (f rfl)) rfl (fun i d=>ui (ut ty3 rfl ((c rfl).1 (zh rfl d))) (fun _ _ h=>qh.1 h));rintro l au a g ⟨c,f,_⟩
 exact zu (Gj:=true) (Bj:=decide (x.to=b.to∧x.out=b.out)) rfl rfl rfl (uf (f rfl)) rfl (fun i d=>zz (z2z (show l 10=(vi x.to) from(c rfl).1 (zh rfl d)) rfl));rintro l av a g ⟨c,f,j,_⟩
 exact zu (Gj:=true) (Bj:=decide (x.to=b.to∧x.out=b.out)) rfl rfl rfl (uf (f rfl)) rfl (fun i d=>zz (za (show l 11=(.bool (decide (0≤x.to))) from(c rfl).1 (zh rfl d))));rintro l aw a g ⟨c,_⟩;exact zu (Gj:=e) (Bj:=decide (0≤x.to)) rfl rfl rfl (c rfl) rfl (fun i d=>ae z6j z9c (g 3 rfl) (t.mono a))
 rintro l ax a g ⟨c,f,_⟩;exact zu (Gj:=e) (Bj:=decide (0≤x.to)) rfl rfl rfl (f rfl) rfl (fun i d=>ui (ut ty3 rfl ((c rfl).1 (zh i d))) (fun _ _ h=>qh.1 h));rintro l M a g ⟨c,_⟩;exact zu (Gj:=e) (Bj:=decide (0≤x.to)) rfl rfl rfl (c rfl) rfl (fun i d=>ae vz ug (g 2 rfl) ((K.mono q).mono a))
 rintro l O a g ⟨c,f,_⟩;exact zu (Gj:=e) (Bj:=decide (0≤x.to)) rfl rfl rfl (f rfl) rfl (fun i d=>ut z11 rfl ((c rfl).1 (zh i d)));rintro l P a g ⟨c,f,_⟩;exact zu (Gj:=e) (Bj:=decide (0≤x.to)) rfl rfl rfl (f rfl) rfl (fun i d=>zz (qm rfl underlying25 rfl (jc ((c rfl).1 (zh i d)))))
 rintro l Q a g ⟨c,f,j,_⟩;exact zu (Gj:=e) (Bj:=decide (0≤x.to)) rfl rfl rfl (j rfl) rfl (fun i d=>zz (jd (show l 14=(vi x.to) from(c rfl).1 (zh i d)) (show l 17=(vi (↑m.rows.length:Int)) from(f rfl).1 (zh i d))));rintro l S a g ⟨c,f,j,_⟩
 exact zu (Gj:=true) (Bj:=decide (x.to=b.to∧x.out=b.out)) rfl rfl rfl (uf (j rfl)) rfl (fun i d=>zz (u6 (show l 12=(.bool (decide (0≤x.to))) from(c rfl).1 (zh rfl d)) (fun s=>(show l 18=(.bool (decide (x.to<(↑m.rows.length:Int)))) from(f rfl).1 (zh (zh rfl d) s))) rfl));rintro l U a g ⟨c,f,j,_⟩
 exact zu (Gj:=true) (Bj:=decide (x.to=b.to∧x.out=b.out)) rfl rfl rfl (uf (j rfl)) rfl (fun i d=>zz (za (show l 19=(.bool k) from(c rfl).1 (zh rfl d))));rintro l V a g ⟨c,_⟩
 exact zu (Gj:=e) (Bj:=(decide (0≤x.to))&&(decide (x.to<(↑m.rows.length:Int)))) rfl rfl rfl (c rfl) rfl (fun i d=>ae zdq zjw (g 3 rfl) (t.mono a));rintro l W a g ⟨c,f,_⟩
 exact zu (Gj:=e) (Bj:=(decide (0≤x.to))&&(decide (x.to<(↑m.rows.length:Int)))) rfl rfl rfl (f rfl) rfl (fun i d=>ui (ut ty3 rfl ((c rfl).1 (zh i d))) (fun _ _ h=>qh.1 h));rintro l X a g ⟨c,f,_⟩
 exact zu (Gj:=e) (Bj:=(decide (0≤x.to))&&(decide (x.to<(↑m.rows.length:Int)))) rfl rfl rfl (f rfl) rfl (fun i d=>zz (z2z (show l 22=(vi x.out) from(c rfl).1 (zh i d)) rfl));rintro l Y a g ⟨c,f,j,_⟩
 exact zu (Gj:=true) (Bj:=decide (x.to=b.to∧x.out=b.out)) rfl rfl rfl (uf (j rfl)) rfl (fun i d=>zz (u6 (show l 20=(.bool k) from(c rfl).1 (zh rfl d)) (fun s=>(show l 23=(.bool (decide (0≤x.out))) from(f rfl).1 (zh (zh rfl d) s))) rfl));rintro l Z a g ⟨c,f,j,_⟩
 exact zu (Gj:=true) (Bj:=decide (x.to=b.to∧x.out=b.out)) rfl rfl rfl (uf (j rfl)) rfl (fun i d=>zz (za (show l 24=(.bool o) from(c rfl).1 (zh rfl d))));rintro l aa a g ⟨c,_⟩;exact zu (Gj:=e) (Bj:=k&&(decide (0≤x.out))) rfl rfl rfl (c rfl) rfl (fun i d=>ae zdq zjw (g 3 rfl) (t.mono a))
 rintro l ab a g ⟨c,f,_⟩;exact zu (Gj:=e) (Bj:=k&&(decide (0≤x.out))) rfl rfl rfl (f rfl) rfl (fun i d=>ui (ut ty3 rfl ((c rfl).1 (zh i d))) (fun _ _ h=>qh.1 h));rintro l ac a g ⟨c,_⟩
 exact zu (Gj:=e) (Bj:=k&&(decide (0≤x.out))) rfl rfl rfl (c rfl) rfl (fun i d=>ae zb7 z8a (g 2 rfl) ((K.mono q).mono a));rintro l ad a g ⟨c,f,_⟩;exact zu (Gj:=e) (Bj:=k&&(decide (0≤x.out))) rfl rfl rfl (f rfl) rfl (fun i d=>ui (ut ty3 rfl ((c rfl).1 (zh i d))) (fun _ _ h=>qh.1 h))
 rintro l af a g ⟨c,f,j,_⟩;exact zu (Gj:=e) (Bj:=k&&(decide (0≤x.out))) rfl rfl rfl (j rfl) rfl (fun i d=>zz (jd (show l 27=(vi x.out) from(c rfl).1 (zh i d)) (show l 29=(vi m.outputs) from(f rfl).1 (zh i d))));rintro l ag a g ⟨c,f,j,_⟩
 exact zu (Gj:=true) (Bj:=decide (x.to=b.to∧x.out=b.out)) rfl rfl rfl (uf (j rfl)) rfl (fun i d=>zz (u6 (show l 25=(.bool o) from(c rfl).1 (zh rfl d)) (fun s=>(show l 30=(.bool (decide (x.out<m.outputs))) from(f rfl).1 (zh (zh rfl d) s))) rfl));rintro l ah a g ⟨c,f,_⟩
 exact zf rfl rfl rfl (zz (ak (c rfl) rfl (fun s=>(show l 31=(.bool L) from(f rfl).1 (zh rfl s)))));rintro l ai a g ⟨c,f,j,d3,d4,d5,d6,d7,d8,d9,ay,az,aA,aB,aC,aD,aE,aF,aG,aH,aI,aJ,aK,aL,aM,aN,aO,aP,aQ,aR,_⟩;exact zf rfl rfl rfl (zz (ou (c rfl)))
 intro aS C aT E aU F aV G aW aX aY aZ a0 a1 a2 a3 a4 a5 a6 a7 a8 a9 ba bb bc be bf bg bh bi bj bk bl bm bn bo bp bq br bs bt bu bv bw bx bz bA bB bC bD bE bF bG bH bI H bJ I;obtain rfl:=Eq.symm C;obtain rfl:=Eq.symm E;obtain rfl:=Eq.symm F;obtain rfl:=Eq.symm G;obtain rfl:=Eq.symm H;obtain rfl:=Eq.symm I
 refine z8 (ql ?_);obtain rfl:=Option.some.inj n;refine qd (D:=[]) (J:=[]) (rs:=[.tmp 4]) (vs:=[(.bool B)]) ((y.trans q).trans u) rfl rfl ⟨rfl,trivial⟩ ?_;exact⟨rfl,rfl⟩
theorem zz3:Enters prog 84:=enters_of func84 rfl (by kernel_rfl)
theorem zck{N:Nat}{R:RH}{x:Edge}{p0_:Mach}{a:Value}(c:PRep (jl false false) R a p0_){r:Bool}(b:z6g N x p0_=some r):CallP prog 83 #[(z2k x),a] R (fun v R'=>v=(.bool r)):=by
 refine qo (args:=[(z2k x),a]) func83 rfl rfl fun A=>?_;rw [z6g] at b;refine zl (z6k (T:=kEdge) rfl rfl (z16.2 rfl) fun n o d i=>?_);refine zk (.bool false) (j4 (qp rfl au rfl (c.mono d) fun p j=>?_));refine qp rfl zj5 rfl i fun q k=>?_;obtain rfl:=z16.1 k
 obtain⟨h,f,b⟩:=zn b;refine ja rfl zz3 rfl (zey j f) fun l m e g=>?_;obtain rfl:=g;refine zi (cz rfl) (zk (.bool (!h)) (z8 (ql ?_)));obtain rfl:=Option.some.inj b;refine qd (D:=[]) (J:=[]) (rs:=[.tmp 3]) (vs:=[(.bool (!h))]) (d.trans e) rfl rfl ⟨rfl,trivial⟩ ?_;exact⟨rfl,rfl⟩
theorem zxy:Enters prog 83:=enters_of func83 rfl (by kernel_rfl)
theorem ze9{N:Nat}{R:RH}{m:Mach}{q:Value}(F:VRep (jl false false) R q m){r:Int}(b:z1u N m=some r):CallP prog 75 #[q] R (fun v R'=>v=(vi r)):=by
 refine qo (args:=[q]) func75 rfl rfl fun A=>?_;rw [z1u] at b;refine zl (uz (T:=(jl false false)) rfl rfl rfl F fun E R3 k h5 l=>?_);refine zk (vi 0) (z8 (zx (zl (zj1 rfl (ym z06 eu rfl l) fun v6 h7=>?_))))
 refine j5 rfl (y5 (jm ty3 rfl h7)) (j5 rfl (cu rfl rfl) (j5 (v:=(.bool (decide (16<m.inputs)))) rfl (za rfl) (qi rfl rfl rfl rfl (fun c=>ym zb7 z8a rfl l) fun al G=>?_)));refine qi rfl rfl rfl rfl (fun c=>qf (y5 (jm ty3 rfl (G.1 (zh rfl c))))) fun am H=>?_
 refine qi rfl rfl rfl rfl (fun c=>qf (cu (H.1 (zh rfl c)) rfl)) fun an I=>?_;refine j5 rfl (ak rfl rfl (fun n=>(I.1 (zh rfl n)))) (j5 (v:=(.bool ((decide (16<m.inputs))||(decide (16<m.outputs))))) rfl (za rfl) (qi rfl rfl rfl rfl (fun c=>ym vz ug rfl l) fun ao K=>?_))
 refine qi rfl rfl rfl rfl (fun c=>jm z11 rfl (K.1 (zh rfl c))) fun ap L=>?_;refine qi rfl rfl rfl rfl (fun c=>qf (qm rfl underlying25 rfl (jc (L.1 (zh rfl c))))) fun aq M=>?_;refine qi rfl rfl rfl rfl (fun c=>qf (cu (M.1 (zh rfl c)) rfl)) fun ar O=>?_
 refine j5 rfl (ak rfl rfl (fun n=>(O.1 (zh rfl n)))) (z8 (zw rfl b (fun b=>?_) (fun b=>?_)));refine zl (zk (vi 3) (z8 (ql ?_)));obtain rfl:=Option.some.inj b;refine qd (D:=[]) (J:=[]) (rs:=[.tmp 2]) (vs:=[(vi 3)]) k rfl rfl ⟨rfl,trivial⟩ ?_;exact⟨rfl,rfl⟩
 refine qc (zx (zl (zj1 rfl (ym z06 eu rfl l) fun au P=>?_)));refine j5 rfl (y5 (jm ty3 rfl P)) (j5 rfl (jd rfl rfl) (j5 (v:=(.bool (decide (m.inputs<1)))) rfl (za rfl) (qi rfl rfl rfl rfl (fun c=>ym zb7 z8a rfl l) fun av Q=>?_)))
 refine qi rfl rfl rfl rfl (fun c=>qf (y5 (jm ty3 rfl (Q.1 (zh rfl c))))) fun aw S=>?_;refine qi rfl rfl rfl rfl (fun c=>qf (jd (S.1 (zh rfl c)) rfl)) fun ax U=>?_
 refine j5 rfl (ak rfl rfl (fun n=>(U.1 (zh rfl n)))) (j5 (v:=(.bool ((decide (m.inputs<1))||(decide (m.outputs<1))))) rfl (za rfl) (qi rfl rfl rfl rfl (fun c=>ym vz ug rfl l) fun ay V=>?_));refine qi rfl rfl rfl rfl (fun c=>jm z11 rfl (V.1 (zh rfl c))) fun az W=>?_
 refine qi rfl rfl rfl rfl (fun c=>qf (qm rfl underlying25 rfl (jc (W.1 (zh rfl c))))) fun aA X=>?_;refine qi rfl rfl rfl rfl (fun c=>qf (jd (X.1 (zh rfl c)) rfl)) fun aB Y=>?_;refine j5 rfl (ak rfl rfl (fun n=>(Y.1 (zh rfl n)))) (z8 (zw rfl b (fun b=>?_) (fun b=>?_)))
 refine zl (zk (vi 1) (z8 (ql ?_)));obtain rfl:=Option.some.inj b;refine qd (D:=[]) (J:=[]) (rs:=[.tmp 2]) (vs:=[(vi 1)]) k rfl rfl ⟨rfl,trivial⟩ ?_;exact⟨rfl,rfl⟩;refine qc ?_;obtain⟨s,a,b⟩:=zn b;refine j6 (γ:=Unit) (rs [2,3,4,5,33,51]) (fun g=>[]) (fun g=>[]++A) (fun g R=>s=Ex.go g∧True) ?_ ?_
 refine zl (jg rfl vz ug rfl l fun aC Z=>?_);refine qp rfl z11 rfl Z fun aD t=>?_
 refine zi (qm rfl underlying25 rfl (jc t)) (zm (vi 0) (z8 (zy (kg (γ:=Nat×Int) (rs [2,3,4,5,36,51]) (fun g=>[(36,(vi g.2))]) (fun g=>[]++A) (fun g R=>dz N m g.1 g.2=some s∧True) (fun g=>g.1) (N,0) prm ⟨a,trivial⟩ ?_))));clear a;rintro⟨o,e⟩ ah aE d ⟨a,_⟩;rcases o with _|o
 exact qy a;replace a:dz N m (o+1) e=some s:=a;rw [dz] at a;refine zl (zi (jd rfl rfl) (z8 (zx (zw rfl a (fun a=>?_) (fun a=>?_)))));refine qc (zx (zy (zl ?_)));obtain⟨u,a⟩:=zb a
 refine ww (i:=e.toNat) rfl zf2 rfl (jc (t.mono d)) (ze rfl u.1) (zo u) fun aF aa=>?_;refine qp rfl zdp rfl aa fun p w=>?_;refine zk p (j4 (j5 (v:=p) rfl (za rfl) (j5 rfl (qm rfl underlying54 rfl (jc w)) (zj1 rfl (ym z06 eu rfl (l.mono d)) fun aG ab=>?_))))
 refine j5 rfl (y5 (jm ty3 rfl ab)) (j5 rfl (gy rfl rfl) (j5 (v:=(.bool (decide ((↑(ix m.rows e).length:Int)≠m.inputs)))) rfl (za rfl) (qi rfl rfl rfl rfl (fun c=>qf (v:=p) (za rfl)) fun aH ac=>?_)))
 refine qi rfl rfl rfl rfl (fun c=>qf (v:=(.func (.func 83) #[] #[E])) (z0j (fs:=[]) (cs:=[E]) rfl rfl)) fun aI ad=>?_;obtain⟨ae,af,a⟩:=zn a
 refine nk rfl rfl rfl rfl (fun c=>yh (vs:=[p,(.func (.func 83) #[] #[E])]) zyk (fu (ac.1 (zh rfl c)) (fu (ad.1 (zh rfl c)) rfl)) ((by have ag:=(mi af (zh rfl c));exact z6h w (znp (cs:=[E]) zxy fun R1 hq z0 u0 y k0 hy=>by obtain rfl:=z16.1 k0;exact CallP.mono (zck ((l.mono d).mono hq) hy) fun v R2 _ hv=>xc.2 hv) ag)) (fun _ _ h=>h)) fun x z f j=>?_
 replace j:phG (true&&((decide ((↑(ix m.rows e).length:Int)≠m.inputs))==false)) (phX (.bool (ae.getD default))) x z:=j;refine j5 rfl (ak rfl rfl (fun n=>(j.1 (zh rfl n)))) (z8 (zw rfl a (fun a=>?_) (fun a=>?_)));refine zl (zk (vi 1) (z8 (ql ?_)));replace b:=z0k a b;obtain rfl:=Option.some.inj b
 refine qd (D:=[]) (J:=[]) (rs:=[.tmp 2]) (vs:=[(vi 1)]) ((k.trans d).trans f) rfl rfl ⟨rfl,trivial⟩ ?_;exact⟨rfl,rfl⟩;refine qc (zq ?_);obtain⟨B,a⟩:=zb a;refine zi (je rfl rfl B) (zm (vi (e+1)) (z8 ?_));exact⟨dkt,f,jr,(o,e+1),Nat.lt_succ_self _,⟨rfl,trivial⟩,prm,a,trivial⟩
 refine jq ?_;exact⟨dkt,d,jr,(),trivial,prm,(Option.some.inj a).symm,trivial⟩;rintro aN ai aO C ⟨rfl,_⟩;replace b:=sw b;refine zl (zk (vi 0) (z8 (ql ?_)));obtain rfl:=Option.some.inj b;refine qd (D:=[]) (J:=[]) (rs:=[.tmp 2]) (vs:=[(vi 0)]) (k.trans C) rfl rfl ⟨rfl,trivial⟩ ?_;exact⟨rfl,rfl⟩
theorem zzb:Enters prog 75:=enters_of func75 rfl (by kernel_rfl)
theorem zsn: ∀ w,∃ z,(zeroValue 88).run prog w= .ok z w∧z.cells=([.slice none 0 0]:List Value).toArray:=fun w=>⟨vs0,by kernel_rfl,rfl⟩
theorem ztk: ∀ w,(sizeOf 88).run prog w= .ok 1 w:=fun w=>by kernel_rfl
theorem zwr: ∀ w,∃ z,(zeroValue 124).run prog w= .ok z w∧z.cells=([.nilFunc]:List Value).toArray:=fun w=>⟨.nilFunc,by kernel_rfl,rfl⟩
theorem zvv: ∀ w,(sizeOf 124).run prog w= .ok 1 w:=fun w=>by kernel_rfl
theorem zu5: ∀ w,(isAgg 124).run prog w= .ok false w:=fun w=>by kernel_rfl
theorem zd3: ∀ w,(isAgg 88).run prog w= .ok false w:=fun w=>by kernel_rfl
theorem zxs:Enters prog 76:=enters_of func76 rfl (by kernel_rfl)
theorem z7w{N:Nat}(F:Nat): ∀ {R:RH} {s:Int} {a:Nat} {p0_:List Bool} {e:Value} {fAe:Frag} (f:ORep vw R fAe e p0_) {p1_:Mach} {d:Value} (k:PRep (jl false false) R d p1_) {b:Nat} {r:List Bool} (c:x9 N F s p0_ p1_=some r),CallG prog 76 #[(vi s),(.pointer (some ⟨a,0,none⟩)),d,(.pointer (some ⟨b,0,none⟩))] R [box a [e] 88,fAe,box b [.func (.func 76) #[] #[(.pointer (some ⟨a,0,none⟩)),d,(.pointer (some ⟨b,0,none⟩))]] 124] (fun v R' O'=> ∃ l m,v= .tuple #[]∧O'=[box a [l] 88,m,box b [.func (.func 76) #[] #[(.pointer (some ⟨a,0,none⟩)),d,(.pointer (some ⟨b,0,none⟩))]] 124]∧ORep vw R' m l r):=by
  induction F with
  |zero=>intros;rename_i c;exact qy c
  |succ F ih=>
    intro R s a p0_ e fAe f p1_ d k b r c
    refine oz (args:=[(vi s),(.pointer (some ⟨a,0,none⟩)),d,(.pointer (some ⟨b,0,none⟩))]) func76 rfl rfl fun A=>?_
    rw [x9] at c
    refine zx ?_
    refine zx ?_
    refine zq ?_
    refine j5 (v:=(vi s)) rfl (za rfl) ?_
    refine j5 rfl (ul rfl rfl) ?_
    refine j5 (v:=(.bool (decide (s=(-1))))) rfl (za rfl) ?_
    refine qi rfl rfl rfl rfl (fun o=>qf (v:=e) (zg (i:=0) zd3 rfl rfl rfl)) fun v7 h8=>?_
    refine qi rfl rfl rfl rfl (fun o=>qf (v:=(vi s)) (za rfl)) fun v9 G=>?_
    obtain⟨q,c⟩:=zb c
    refine qi rfl rfl rfl rfl (fun o=>z15 (i:=s.toNat) z8f (h8.1 (zh rfl o)) f (ze (G.1 (zh rfl o)) (q (zh rfl o)).1) (zo (q (zh rfl o)))) fun ae H=>?_
    refine qi rfl rfl rfl rfl (fun o=>qf (zfa (z9b (i:=s.toNat) (j:=1) ty4 f rfl rfl (H.1 (zh rfl o)) (zo (q (zh rfl o)))))) fun af I=>?_
    refine j5 rfl (ak rfl rfl (fun hb=>(I.1 (zh rfl hb)))) ?_
    refine z8 ?_
    refine zw rfl c (fun c=>?_) (fun c=>?_)
    · refine ql ?_
      obtain rfl:=Option.some.inj c
      refine mr (D:=[]) (J:=[]) (O':=[box a [e] 88,fAe,box b [(.func (.func 76) #[] #[(.pointer (some ⟨a,0,none⟩)),d,(.pointer (some ⟨b,0,none⟩))])] 124]) (rs:=[]) (vs:=[]) (RH.le.refl _) ((pk 0 rfl (pk 0 rfl (pk 0 rfl (List.Perm.refl _))))) rfl trivial ?_
      exact⟨e,fAe,rfl,rfl,f⟩
    · refine qc ?_
      refine zx ?_
      refine zq ?_
      refine zi (zg (i:=0) zd3 rfl rfl rfl) ?_
      refine zm (vi s) ?_
      obtain⟨t,c⟩:=zb c
      refine uj (i:=s.toNat) rfl z8f rfl f (ze rfl t.1) (zo t) fun ah K=>?_
      refine pg (i:=s.toNat) (j:=1) ty4 f rfl rfl K (zo t) rfl (xc.2 rfl) fun L M=>?_
      refine z8 ?_
      refine zx ?_
      refine zq ?_
      refine jg rfl vz ug rfl k fun ai O=>?_
      refine qp rfl z11 rfl O fun aj P=>?_
      refine zm (vi s) ?_
      obtain⟨x,c⟩:=zb c
      refine ww (i:=s.toNat) rfl zf2 rfl (jc P) (ze rfl x.1) (zo x) fun al Q=>?_
      refine qp rfl zdp rfl Q fun am y=>?_
      refine zi (qm rfl underlying54 rfl (jc y)) ?_
      refine zm (vi 0) ?_
      refine z8 ?_
      refine zy ?_
      refine kg (γ:=Nat×Int×(List Bool)×Value×Frag) (rs [6,7,24,33]) (fun g=>[(24,(vi g.2.1))]) (fun g=>[box b [(.func (.func 76) #[] #[(.pointer (some ⟨a,0,none⟩)),d,(.pointer (some ⟨b,0,none⟩))])] 124,box a [g.2.2.2.1] 88,g.2.2.2.2]++A) (fun g R=>xx N (x9 N F) s p1_ g.1 g.2.1 g.2.2.1=some r∧ORep vw R g.2.2.2.2 g.2.2.2.1 g.2.2.1∧True) (fun g=>g.1) (N,0,(up p0_ s true),e,L) ⟨[],(pk 2 rfl (pk 0 rfl (pk 0 rfl (List.Perm.refl _))))⟩ ⟨c,M,trivial⟩ ?_
      clear c
      rintro⟨p,h,S,u,w⟩ an ao n ⟨c,z,_⟩
      rcases p with _|p
      · exact qy c
      replace c:xx N (x9 N F) s p1_ (p+1) h S=some r:=c;rw [xx] at c
      refine zx ?_
      refine zq ?_
      refine zi (jd rfl rfl) ?_
      refine z8 ?_
      refine zx ?_
      refine zw rfl c (fun c=>?_) (fun c=>?_)
      · refine qc ?_
        refine zx ?_
        refine zy ?_
        refine zx ?_
        refine zq ?_
        obtain⟨B,c⟩:=zb c
        refine ww (i:=h.toNat) rfl zhb rfl (jc (y.mono n)) (ze rfl B.1) (zo B) fun ap T=>?_
        refine qp rfl zj5 rfl T fun aq U=>?_
        obtain rfl:=z16.1 U
        refine jb rfl zmq fun C=>?_
        refine qj (i:=0) (vs:=[(vi ((ix (ix p1_.rows s) h).to)),(vi ((ix (ix p1_.rows s) h).out))]) ze6 rfl rfl rfl rfl rfl rfl (qa rfl (qa rfl qw)) ?_
        refine z8 ?_
        refine zq ?_
        refine zi (zg (i:=1) zu5 rfl rfl rfl) ?_
        refine zi (qg z6j rfl) ?_
        refine zi (zg (i:=0) ag3 rfl rfl rfl) ?_
        obtain⟨V,W,c⟩:=zn c
        refine fo (Oc:=[box a [u] 88,w,box b [(.func (.func 76) #[] #[(.pointer (some ⟨a,0,none⟩)),d,(.pointer (some ⟨b,0,none⟩))])] 124]) (Or:=[box C [(vi ((ix (ix p1_.rows s) h).to)),(vi ((ix (ix p1_.rows s) h).out))] 53]++A) (cs:=[(.pointer (some ⟨a,0,none⟩)),d,(.pointer (some ⟨b,0,none⟩))]) (vs:=[(vi ((ix (ix p1_.rows s) h).to))]) rfl zxs rfl rfl ((pk 2 rfl (pk 2 rfl (pk 1 rfl (pk 0 rfl (List.Perm.refl _)))))) (ih z (k.mono n) W) fun ar au ac E X=>?_
        obtain⟨Y,Z,rfl,rfl,aa⟩:=X
        refine z8 ?_
        refine zq ?_
        obtain⟨ab,c⟩:=zb c
        refine zi (je rfl rfl ab) ?_
        refine zm (vi (h+1)) ?_
        refine z8 ?_
        exact⟨dkt,E,jr,(p,h+1,V,Y,Z),Nat.lt_succ_self _,⟨rfl,trivial⟩,⟨[box C [(vi ((ix (ix p1_.rows s) h).to)),(vi ((ix (ix p1_.rows s) h).out))] 53],(pk 3 rfl (pk 2 rfl (pk 0 rfl (pk 0 rfl (List.Perm.refl _)))))⟩,c,aa,trivial⟩
      · refine jq ?_
        show zb8 _ _ _ _ _ .ret _ [] _ _
        obtain rfl:=Option.some.inj c
        refine mr (D:=[]) (J:=[]) (O':=[box a [u] 88,w,box b [(.func (.func 76) #[] #[(.pointer (some ⟨a,0,none⟩)),d,(.pointer (some ⟨b,0,none⟩))])] 124]) (rs:=[]) (vs:=[]) n ((pk 1 rfl (pk 1 rfl (pk 0 rfl (List.Perm.refl _))))) rfl trivial ?_
        exact⟨u,w,rfl,rfl,z⟩
theorem za9{N:Nat}{R:RH}{s:Int}{a:Nat}{p0_:List Bool}{d:Value}{fAe:Frag}(g:ORep vw R fAe d p0_){p1_:Mach}{c:Value}(h:PRep (jl false false) R c p1_){b:Nat}{r:List Bool}(i:x9 N N s p0_ p1_=some r):CallG prog 76 #[(vi s),(.pointer (some ⟨a,0,none⟩)),c,(.pointer (some ⟨b,0,none⟩))] R [box a [d] 88,fAe,box b [.func (.func 76) #[] #[(.pointer (some ⟨a,0,none⟩)),c,(.pointer (some ⟨b,0,none⟩))]] 124] (fun v R' O'=> ∃ e f,v= .tuple #[]∧O'=[box a [e] 88,f,box b [.func (.func 76) #[] #[(.pointer (some ⟨a,0,none⟩)),c,(.pointer (some ⟨b,0,none⟩))]] 124]∧ORep vw R' f e r):=z7w N g h i
theorem zbw{N:Nat}{R:RH}{s:(List Bool)}{c:Value}(h:VRep (tSl false vw) R c s){f:Bool}{r:Int}(b:z1e N s f=some r):CallP prog 85 #[c,(.bool f)] R (fun v R'=>v=(vi r)):=by
 refine qo (args:=[c,(.bool f)]) func85 rfl rfl fun A=>?_;rw [z1e] at b;refine zl (zk (vi 0) (z8 ?_));obtain⟨l,a,b⟩:=zn b;refine j6 (γ:=Unit) (rs [4,19]) (fun g=>[]) (fun g=>[]++A) (fun g R=>l=Ex.go g∧True) ?_ ?_
 refine zl (zm c (zi (qm rfl underlying88 rfl (jc h)) (zm (vi 0) (z8 (zy (kg (γ:=Nat×Int) (rs [4,6,8,19]) (fun g=>[(8,(vi g.2))]) (fun g=>[]++A) (fun g R=>gm N s f g.1 g.2=some l∧True) (fun g=>g.1) (N,0) prm ⟨a,trivial⟩ ?_))))));clear a;rintro⟨k,d⟩ q x e ⟨a,_⟩;rcases k with _|k
 exact qy a;replace a:gm N s f (k+1) d=some l:=a;rw [gm] at a;refine zl (zi (jd rfl rfl) (z8 (zx (zw rfl a (fun a=>?_) (fun a=>?_)))));refine qc (zx (zy (zl (zm (vi d) (zk (vi d) (j4 (zm (.bool f) (zm c (zm (vi d) ?_)))))))))
 obtain⟨j,a⟩:=zb a;refine ww (i:=d.toNat) rfl z8f rfl (jc (h.mono e)) (ze rfl j.1) (zo j) fun t m=>?_;refine qp rfl ty4 rfl m fun u n=>?_;obtain rfl:=xc.1 n;refine zi (zrl underlying4 rfl rfl) (z8 (zw rfl a (fun a=>?_) (fun a=>?_)))
 refine zl (zm (vi d) (zk (vi d) (z8 (ql ?_))));replace b:=z0k a b;obtain rfl:=Option.some.inj b;refine qd (D:=[]) (J:=[]) (rs:=[.tmp 4]) (vs:=[(vi d)]) e rfl rfl ⟨rfl,trivial⟩ ?_;exact⟨rfl,rfl⟩;refine qc (zq ?_);obtain⟨o,a⟩:=zb a
 refine zi (je rfl rfl o) (zm (vi (d+1)) (z8 ?_));exact⟨dkt,(RH.le.refl _),jr,(k,d+1),Nat.lt_succ_self _,⟨rfl,trivial⟩,prm,a,trivial⟩;refine jq ?_;exact⟨dkt,e,jr,(),trivial,prm,(Option.some.inj a).symm,trivial⟩;rintro y w z p ⟨rfl,_⟩;replace b:=sw b;refine zl (zk (vi (-1)) (z8 (ql ?_)))
 obtain rfl:=Option.some.inj b;refine qd (D:=[]) (J:=[]) (rs:=[.tmp 4]) (vs:=[(vi (-1))]) p rfl rfl ⟨rfl,trivial⟩ ?_;exact⟨rfl,rfl⟩
theorem zyr:Enters prog 85:=enters_of func85 rfl (by kernel_rfl)
theorem za5{N:Nat}{R:RH}{s:(List Bool)}{a:Value}(d:VRep (tSl false vw) R a s){c:Bool}{r:Bool}(b:lc N s c=some r):CallP prog 77 #[a,(.bool c)] R (fun v R'=>v=(.bool r)):=by
 refine qo (args:=[a,(.bool c)]) func77 rfl rfl fun A=>?_;rw [lc] at b;refine zl (zk (.bool false) (j4 (zm a (zm (.bool c) ?_))));obtain⟨f,g,b⟩:=zn b;refine ja rfl zyr rfl (zbw d g) fun i j e h=>?_;obtain rfl:=h
 refine zi (z2z rfl rfl) (zk (.bool (decide (0≤f))) (z8 (ql ?_)));obtain rfl:=Option.some.inj b;refine qd (D:=[]) (J:=[]) (rs:=[.tmp 4]) (vs:=[(.bool (decide (0≤f)))]) e rfl rfl ⟨rfl,trivial⟩ ?_;exact⟨rfl,rfl⟩
theorem zz9:Enters prog 77:=enters_of func77 rfl (by kernel_rfl)
theorem zar{N:Nat}{R:RH}{m:Mach}{h:Value}(j:VRep (jl false false) R h m){r:Bool×Int}(a:z0m N m=some r):CallP prog 63 #[h] R (fun v R'=>v= .tuple #[(.bool r.1),(vi r.2)]):=by
 refine qo (args:=[h]) func63 rfl rfl fun A=>?_;rw [z0m] at a;refine zl (uz (T:=(jl false false)) rfl rfl rfl j fun o Z f O L=>?_);refine zk (.bool false) (zk (vi 0) (z8 (zx (zl (zi (ji au rfl rfl O (j.mono f)) ?_)))));obtain⟨p,P,a⟩:=zn a
 refine ja rfl zzb rfl (ze9 (j.mono f) P) fun v8 Q e S=>?_;obtain rfl:=S;refine zk (vi p) (j4 (zm (vi p) (zi (gy rfl rfl) (z8 (zw rfl a (fun a=>?_) (fun a=>?_))))));refine zl (zm (vi p) (zk (.bool false) (zk (vi p) (z8 (ql ?_)))));obtain rfl:=Option.some.inj a
 refine qd (D:=[]) (J:=[]) (rs:=[.tmp 2,.tmp 3]) (vs:=[(.bool false),(vi p)]) (f.trans e) rfl rfl ⟨rfl,rfl,trivial⟩ ?_;exact⟨rfl,rfl⟩;refine qc (zl (jg rfl vz ug rfl (L.mono e) fun U w=>?_));refine qp rfl z11 rfl w fun V x=>?_;refine zi (qm rfl underlying25 rfl (jc x)) ?_
 obtain⟨g,a⟩:=zb a;refine z1r (T:=vw) (m:=(↑m.rows.length:Int).toNat) (c:=(↑m.rows.length:Int).toNat) rfl underlying88 zo4 (ze rfl g.1) (ze rfl g.1) (Nat.le_refl _) (z2i g) (z2l g) fun q y z k=>?_;refine jb rfl zsn fun b=>?_
 refine qj (i:=0) (vs:=[q]) ztk rfl rfl (uh k) rfl rfl rfl (qa (uu k) qw) ?_;refine j4 (jb rfl zwr fun d=>?_)
 refine j4 (zi (z0j (fs:=[]) (cs:=[(.pointer (some ⟨b,0,none⟩)),o,(.pointer (some ⟨d,0,none⟩))]) rfl rfl) (qj (i:=0) (vs:=[(.func (.func 76) #[] #[(.pointer (some ⟨b,0,none⟩)),o,(.pointer (some ⟨d,0,none⟩))])]) zvv rfl rfl rfl rfl rfl rfl (qa rfl qw) ?_));refine j4 (zi (zg (i:=0) zu5 rfl rfl rfl) ?_)
 obtain⟨B,C,a⟩:=zn a
 refine fo (Oc:=[box b [q] 88,y,box d [(.func (.func 76) #[] #[(.pointer (some ⟨b,0,none⟩)),o,(.pointer (some ⟨d,0,none⟩))])] 124]) (Or:=[]++A) (cs:=[(.pointer (some ⟨b,0,none⟩)),o,(.pointer (some ⟨d,0,none⟩))]) (vs:=[(vi 0)]) rfl zxs rfl rfl ((pk 1 rfl (pk 1 rfl (pk 0 rfl (List.Perm.refl _))))) (za9 k (L.mono e) C) fun W X M s E=>?_
 obtain⟨l,F,rfl,rfl,G⟩:=E;refine j4 (zi (zg (i:=0) zd3 rfl rfl rfl) ?_);obtain⟨n,H,a⟩:=zn a;refine zf5 (cs:=[]) (vs:=[l,(.bool false)]) (φ:=fun v=>v=(.bool n)) rfl zz9 rfl rfl (fun I t u=>za5 (z6a ((zcm 1 rfl G t u):VRep (yc vw) I l B)) H) fun Y K=>?_;obtain rfl:=K
 refine zi (cz rfl) (zk (.bool (!n)) (zk (vi 0) (z8 (ql ?_))));obtain rfl:=Option.some.inj a
 refine qd (D:=[]) (J:=[box b [l] 88,F,box d [(.func (.func 76) #[] #[(.pointer (some ⟨b,0,none⟩)),o,(.pointer (some ⟨d,0,none⟩))])] 124]) (rs:=[.tmp 2,.tmp 3]) (vs:=[(.bool (!n)),(vi 0)]) ((f.trans e).trans s) rfl rfl ⟨rfl,rfl,trivial⟩ ?_;exact⟨rfl,rfl⟩
theorem zyh:Enters prog 63:=enters_of func63 rfl (by kernel_rfl)
theorem z1p{N:Nat}{R:RH}{m:Mach}{e:Value}(f:VRep (jl false false) R e m){r:Int}(a:sj N m=some r):CallP prog 35 #[e] R (fun v R'=>v=(vi r)):=by
 refine qo (args:=[e]) func35 rfl rfl fun A=>?_;rw [sj] at a;refine zl (uz (T:=(jl false false)) rfl rfl rfl f fun s t c j u=>?_);refine zk (vi 0) (j4 (zi (ji au rfl rfl j (f.mono c)) ?_));obtain⟨b,k,a⟩:=zn a
 refine ja rfl zyh rfl (zar (f.mono c) k) fun w l d n=>?_;obtain rfl:=n
 refine zm (.tuple #[(.bool b.1),(vi b.2)]) (zi (j3 rfl rfl) (zi (j3 rfl rfl) (zk (.bool b.1) (zk (vi b.2) (z8 (zx (zl (j5 (v:=(vi b.2)) rfl (za rfl) (j5 rfl (ul rfl rfl) (j5 (v:=(.bool (decide (b.2=0)))) rfl (za rfl) (qi rfl rfl rfl rfl (fun i=>qf (v:=(.bool b.1)) (za rfl)) fun o g=>?_)))))))))))
 refine qi rfl rfl rfl rfl (fun i=>qf (cz (g.1 (zh rfl i)))) fun p h=>?_;refine j5 rfl (u6 rfl (fun q=>(h.1 (zh rfl q))) rfl) (z8 (zw rfl a (fun a=>?_) (fun a=>?_)));refine zl (zk (vi 11) (z8 (ql ?_)));obtain rfl:=Option.some.inj a
 refine qd (D:=[]) (J:=[]) (rs:=[.tmp 2]) (vs:=[(vi 11)]) (c.trans d) rfl rfl ⟨rfl,trivial⟩ ?_;exact⟨rfl,rfl⟩;refine qc (zl (zm (vi b.2) (zk (vi b.2) (z8 (ql ?_)))));obtain rfl:=Option.some.inj a;refine qd (D:=[]) (J:=[]) (rs:=[.tmp 2]) (vs:=[(vi b.2)]) (c.trans d) rfl rfl ⟨rfl,trivial⟩ ?_
 exact⟨rfl,rfl⟩
theorem zmj:Enters prog 35:=enters_of func35 rfl (by kernel_rfl)
theorem zyw{a:Bool}:ZeroOk prog 88 (tSl a vw) ([]:List Bool) 24:=by
 obtain⟨i,zv,hi,c,d,f,g⟩:=z1c (P:=prog) (e:=88) (zv:=vs0) (k:=1) (b:=24) (by kernel_rfl);exact⟨i,zv,hi,c,d,f,fun R=>by subst g;exact(u7 rfl aj)⟩
theorem zkj: ∀ w,∃ z,(zeroValue 36).run prog w= .ok z w∧z.cells=([.slice none 0 0]:List Value).toArray:=fun w=>⟨vs0,by kernel_rfl,rfl⟩
theorem zd7: ∀ w,(sizeOf 36).run prog w= .ok 1 w:=fun w=>by kernel_rfl
theorem z5f: ∀ w,(isAgg 36).run prog w= .ok false w:=fun w=>by kernel_rfl
theorem av{N:Nat}{R:RH}{m:Mach}{a:Value}(f:VRep (jl false false) R a m){s:Int}{r:Mach×Int}(b:mo N m s=some r):CallP prog 47 #[a,(vi s)] R (fun v R'=> ∃ h i,v= .func (.func 66) #[] #[h,i]∧PRep (jl false false) R' h r.1∧PRep (q9 .i64) R' i r.2):=by
 refine qo (args:=[a,(vi s)]) func47 rfl rfl fun A=>?_;rw [mo] at b;refine zl (uz (T:=(jl false false)) rfl rfl rfl f fun d l g n j=>?_);refine z6k (T:=(q9 .i64)) rfl rfl (qh.2 rfl) fun e o c k=>?_
 refine zk .nilFunc (j4 (zi (z0j (fs:=[]) (cs:=[d,e]) rfl rfl) (zk (.func (.func 66) #[] #[d,e]) (z8 (ql ?_)))));obtain rfl:=Option.some.inj b;refine qd (D:=[]) (J:=[]) (rs:=[.tmp 4]) (vs:=[(.func (.func 66) #[] #[d,e])]) (g.trans c) rfl rfl ⟨rfl,trivial⟩ ?_;exact⟨rfl,⟨d,e,rfl,(j.mono c),k⟩⟩
theorem zhg:Enters prog 47:=enters_of func47 rfl (by kernel_rfl)
theorem ny{N:Nat}{R:RH}{p0_:Mach}{f:Value}(u:PRep (jl false false) R f p0_){p1_:Int}{h:Value}(y:PRep (q9 .i64) R h p1_):zrm prog 66 [f,h] R (fun(x:Sb) vs R=>vs=[(z4l x)])  (fun σ B s=>bi N p0_ p1_ σ B s):=by
 intro yv σ B I R1 O s0 U p W X c Y Z;refine oz (args:=[yv,f,h]) func66 rfl rfl fun A=>?_;dsimp only at c;rw [bi] at c;refine zl (jg rfl vz ug rfl (u.mono p) fun v1 h2=>?_);refine qp rfl z11 rfl h2 fun v3 h4=>?_;refine qp rfl ty3 rfl (y.mono p) fun v5 h6=>?_;obtain rfl:=qh.1 h6
 obtain⟨V,c⟩:=zb c;refine ww (i:=p1_.toNat) rfl zf2 rfl (jc h4) (ze rfl V.1) (zo V) fun v8 h9=>?_;refine qp rfl zdp rfl h9 fun ae E=>?_
 refine zi (qm rfl underlying54 rfl (jc E)) (zm (vi 0) (z8 (zy (kg (γ:=Nat×σ×Int×(List Frag)) (rs [4,6,12,30]) (fun g=>[(12,(vi g.2.2.1))]) (fun g=>[]++(g.2.2.2++A)) (fun g R=>af N σ B p0_ p1_ g.1 g.2.1 g.2.2.1=some U∧I g.2.1 R g.2.2.2∧True) (fun g=>g.1) (N,s0,0,O) prm ⟨c,X,trivial⟩ ?_))));clear c
 rintro⟨m,z,a,k⟩ ag ah j ⟨c,l,_⟩;rcases m with _|m;exact qy c;replace c:af N σ B p0_ p1_ (m+1) z a=some U:=c;rw [af] at c;refine zl (zi (jd rfl rfl) (z8 (zx (zw rfl c (fun c=>?_) (fun c=>?_)))));refine qc ?_;obtain⟨L,e,c⟩:=zn c
 refine j6 (γ:=σ×(List Frag)) (rs [4,6,14,29]) (fun g=>[]) (fun g=>[]++(g.2++A)) (fun g R=>L=Ex.go g.1∧I g.1 R g.2∧True) ?_ ?_;refine zy (zl (zm (vi a) ?_));obtain⟨F,e⟩:=zb e;refine ww (i:=a.toNat) rfl zhb rfl (jc (E.mono j)) (ze rfl F.1) (zo F) fun ai M=>?_
 refine qp rfl zj5 rfl M fun aj P=>?_;obtain rfl:=z16.1 P;refine jb rfl zmq fun n=>?_;refine zk (vi a) (qj (i:=0) (vs:=[(vi ((ix (ix p0_.rows p1_) a).to)),(vi ((ix (ix p0_.rows p1_) a).out))]) ze6 rfl rfl rfl rfl rfl rfl (qa rfl (qa rfl qw)) ?_)
 refine j4 (zi (qg z6j rfl) (zi (zg (i:=0) ag3 rfl rfl rfl) (zi (gy rfl rfl) (zm (.bool (decide (((ix (ix p0_.rows p1_) a).to)≠(-1)))) (z9m (b:=decide (((ix (ix p0_.rows p1_) a).to)≠(-1))) (fun d=>?_) (fun d=>?_))))));replace e:=zi2 d e;refine z8c (s:=20) rfl rfl (congrArg Value.bool d) ?_
 refine zm yv (z8c (s:=20) rfl rfl (congrArg Value.bool d) ?_);refine zm (vi a) (z8c (s:=20) rfl rfl (congrArg Value.bool d) ?_);refine zi (qg z6j rfl) (z8c (s:=20) rfl rfl (congrArg Value.bool d) ?_);refine zi (zg (i:=0) ag3 rfl rfl rfl) (z8c (s:=20) rfl rfl (congrArg Value.bool d) ?_)
 refine zi (kw (ps:=[(0,(vi a)),(1,(vi ((ix (ix p0_.rows p1_) a).to)))]) (v:=(.agg #[(vi a),(vi ((ix (ix p0_.rows p1_) a).to))])) rfl (fun w=>by kernel_rfl)) (z8c (s:=20) rfl rfl (congrArg Value.bool d) ?_);obtain⟨o,Q,e⟩:=zn e
 refine ze0 (vs:=[(.agg #[(vi a),(vi ((ix (ix p0_.rows p1_) a).to))])]) (J:=[box n [(vi ((ix (ix p0_.rows p1_) a).to)),(vi ((ix (ix p0_.rows p1_) a).out))] 53]) (Oc:=k) (A:=A) rfl rfl rfl rfl (Y (⟨a,(ix (ix p0_.rows p1_) a).to⟩:Sb) z o.1 o.2 _ _ [(.agg #[(vi a),(vi ((ix (ix p0_.rows p1_) a).to))])] j rfl l Q) fun ak q r t=>?_
 refine z8c (s:=20) rfl rfl (congrArg Value.bool d) ?_;refine zi (cz rfl) (zi (z9d (v:=(.bool (!o.1))) (congrArg Value.bool d) rfl) (z8 (zw rfl e (fun e=>?_) (fun e=>?_))));refine ql ?_;replace c:=z0k e c;obtain rfl:=Option.some.inj c
 refine mr (D:=[]) (J:=[box n [(vi ((ix (ix p0_.rows p1_) a).to)),(vi ((ix (ix p0_.rows p1_) a).out))] 53]) (O':=q) (rs:=[]) (vs:=[]) (j.trans r) (List.Perm.refl _) rfl trivial ?_;exact t;refine qc ?_
 exact⟨dkt,r,jr,(o.2,q),trivial,⟨[box n [(vi ((ix (ix p0_.rows p1_) a).to)),(vi ((ix (ix p0_.rows p1_) a).out))] 53],(List.Perm.refl _)⟩,(Option.some.inj e).symm,t,trivial⟩;replace e:=zi5 d e;refine z7v (s:=20) rfl rfl (congrArg Value.bool d) rfl rfl ?_;refine z7v (s:=20) rfl rfl (congrArg Value.bool d) rfl rfl ?_
 refine z7v (s:=20) rfl rfl (congrArg Value.bool d) rfl rfl ?_;refine z7v (s:=20) rfl rfl (congrArg Value.bool d) rfl rfl ?_;refine z7v (s:=20) rfl rfl (congrArg Value.bool d) rfl rfl ?_;refine z7v (s:=20) rfl rfl (congrArg Value.bool d) rfl rfl ?_;refine z7v (s:=20) rfl rfl (congrArg Value.bool d) rfl rfl ?_
 refine zi (z9h (v:=(.bool false)) (congrArg Value.bool d) rfl) (z8 (zbm rfl (fun C=>nomatch C) (fun C=>?_)));clear C;refine qc ?_;exact⟨dkt,(RH.le.refl _),jr,(z,k),trivial,⟨[box n [(vi ((ix (ix p0_.rows p1_) a).to)),(vi ((ix (ix p0_.rows p1_) a).out))] 53],(List.Perm.refl _)⟩,(Option.some.inj e).symm,l,trivial⟩
 rintro⟨S,G⟩ al am H ⟨rfl,K,_⟩;replace c:=sw c;refine zq ?_;obtain⟨T,c⟩:=zb c;refine zi (je rfl rfl T) (zm (vi (a+1)) (z8 ?_));exact⟨dkt,H,jr,(m,S,a+1,G),Nat.lt_succ_self _,⟨rfl,trivial⟩,prm,c,K,trivial⟩;refine jq ?_;show zb8 _ _ _ _ _ .ret _ [] _ _;obtain rfl:=Option.some.inj c
 refine mr (D:=[]) (J:=[]) (O':=k) (rs:=[]) (vs:=[]) j (List.Perm.refl _) rfl trivial ?_;exact l
theorem zhc:Enters prog 66:=enters_of func66 rfl (by kernel_rfl)
theorem zcv: ∀ w,∃ z,(zeroValue 86).run prog w= .ok z w∧z.cells=([.int .i64 0,.int .i64 0]:List Value).toArray:=fun w=>⟨(.agg #[(vi 0),(vi 0)]),by kernel_rfl,rfl⟩
theorem zbd: ∀ w,(sizeOf 86).run prog w= .ok 2 w:=fun w=>by kernel_rfl
theorem z3h:FieldOk prog 86 1 1:=by
 obtain⟨i,hi,a⟩: ∃ i,prog.info? 3=some i∧i.size=1:=jv (by kernel_rfl);exact vg underlying86 rfl rfl hi (by rw [a];rfl)
theorem zhl{N:Nat}{R:RH}{m:Mach}{ad:Value}(ae:VRep (jl false false) R ad m){s:Int}{r:(List Bool)}(k:z6w N m s=some r):CallP prog 64 #[ad,(vi s)] R (fun v R'=>VRep (tSl true vw) R' v r):=by
 refine qo (args:=[ad,(vi s)]) func64 rfl rfl fun A=>?_;rw [z6w] at k;refine zl (uz (T:=(jl false false)) rfl rfl rfl ae fun v1 R3 af h5 h2=>?_);refine zk vs0 (j4 (jg rfl vz ug rfl h2 fun v6 h7=>?_));refine qp rfl z11 rfl h7 fun v8 h9=>?_;refine zi (qm rfl underlying25 rfl (jc h9)) ?_
 obtain⟨M,k⟩:=zb k;refine z1r (T:=vw) (m:=(↑m.rows.length:Int).toNat) (c:=(↑m.rows.length:Int).toNat) rfl underlying88 zo4 (ze rfl M.1) (ze rfl M.1) (Nat.le_refl _) (z2i M) (z2l M) fun d bD ag P=>?_;refine jb rfl zsn fun l=>?_
 refine qj (i:=0) (vs:=[d]) ztk rfl rfl (uh P) rfl rfl rfl (qa (uu P) qw) ?_;refine j4 (zi (zg (i:=0) zd3 rfl rfl rfl) (zm (vi s) ?_));obtain⟨ah,k⟩:=zb k;refine uj (i:=s.toNat) rfl z8f rfl P (ze rfl ah.1) (zo ah) fun bE aV=>?_
 refine pg (i:=s.toNat) (j:=1) ty4 P rfl rfl aV (zo ah) rfl (xc.2 rfl) fun aW aX=>?_;refine z8 ?_;obtain⟨C,a,k⟩:=zn k;refine z1q (γ:=(List Bool)×Frag) false (rs [6,9,16,52]) (fun g=>[]) (fun g=>[box l [d] 88,g.2]++A) (fun g R=>C=g.1∧ORep vw R g.2 d g.1∧capOf d=g.1.length∧True) ?_ ?_
 refine zl (zm (vi s) (p8 (T:=(q9 .i64)) (X:=([s]:List Int)) (ps:=[(0,(vi s))]) (css:=[[(vi s)]]) rfl underlying36 zo3 rfl rfl (kv ⟨rfl,trivial⟩) rfl rfl (by decide) fun ax aY aZ ai=>?_));refine jb rfl zkj fun a0=>?_
 refine qj (i:=0) (vs:=[ax]) zd7 rfl rfl (uh ai) rfl rfl rfl (qa (uu ai) qw) ?_
 refine z8 (zy (z0n (γ:=Nat×(List Bool)×(List Int)×Frag×Value×Frag×Nat) false (rs [6,9,18,52]) (fun g=>[(6,(.pointer (some ⟨g.2.2.2.2.2.2,0,none⟩)))]) (fun g=>[box l [d] 88,g.2.2.2.1,g.2.2.2.2.2.1,box g.2.2.2.2.2.2 [g.2.2.2.2.1] 36]++A) (fun g R=>lg N m g.1 g.2.1 g.2.2.1=some C∧ORep vw R g.2.2.2.1 d g.2.1∧capOf d=g.2.1.length∧ORep (q9 .i64) R g.2.2.2.2.2.1 g.2.2.2.2.1 g.2.2.1∧True) (fun g=>g.1) (N,(up (mk (↑m.rows.length:Int) false) s true),([s]:List Int),aW,ax,aY,a0) ⟨rfl,trivial⟩ ⟨[],(pk 2 rfl (pk 2 rfl (pk 1 rfl (pk 0 rfl (List.Perm.refl _)))))⟩ ⟨a,aX,((ag.trans List.length_replicate.symm).trans List.length_set.symm),ai,trivial⟩ (fun _=>rfl) ?_))
 clear a;rintro⟨Q,ay,n,aj,ak,al,t⟩ bj bk bF a1 y ⟨a,az,W,u,_⟩;rcases Q with _|Q;exact qy a;replace a:lg N m (Q+1) ay n=some C:=a;rw [lg] at a
 refine zx (zl (zi (zg (i:=3) z5f rfl rfl rfl) (zi (o5 rfl underlying36 rfl u) (zi (cu rfl rfl) (z8 (zw rfl a (fun a=>?_) (fun a=>?_)))))));refine qc (zx (zy (zl (zi (zg (i:=3) z5f rfl rfl rfl) (zi (zg (i:=3) z5f rfl rfl rfl) (zi (o5 rfl underlying36 rfl u) ?_))))))
 obtain⟨a2,a⟩:=zb a;refine zi (z1i rfl rfl a2) ?_;obtain⟨am,a⟩:=zb a;refine uj (i:=((↑n.length:Int)-1).toNat) rfl bg rfl u (ze rfl am.1) (zo am) fun bG a3=>?_;refine z0g (i:=((↑n.length:Int)-1).toNat) (j:=2) rfl ty3 u rfl rfl a3 (zo am) fun bH a4=>?_;obtain rfl:=qh.1 a4
 refine zk (vi (ix n ((↑n.length:Int)-1))) (j4 (zi (zg (i:=3) z5f rfl rfl rfl) (zi (zg (i:=3) z5f rfl rfl rfl) (zi (o5 rfl underlying36 rfl u) ?_))));obtain⟨a5,a⟩:=zb a;refine zi (z1i rfl rfl a5) ?_;obtain⟨S,a⟩:=zb a
 refine zef (v:=ak) (lo:=(0:Int).toNat) (hi:=((↑n.length:Int)-1).toNat) (mx:=(capOf ak)) rfl bg rfl u (.inl ⟨rfl,rfl⟩) (.inr ⟨_,congrArg some (ze rfl (zeo S))⟩) (.inl ⟨rfl,rfl⟩) (zes S) (z7a S) (Nat.le_trans (z7a S) (zg4 u)) (Nat.le_refl _) fun an ao a6=>?_
 refine qj (i:=3) (vs:=[an]) zd7 rfl rfl (uh ao) rfl rfl rfl (qa (uu ao) qw) ?_;refine j4 (zi (ji au rfl rfl (h5.mono y) (ae.mono (af.trans y))) (zm (vi (ix n ((↑n.length:Int)-1))) ?_));obtain⟨bI,a7,a⟩:=zn a
 refine ja rfl zhg rfl (av (ae.mono (af.trans y)) a7) fun bJ bK E a8=>?_;obtain⟨bL,bM,rfl,a9,ba⟩:=a8;refine z8 (zy ?_);obtain⟨aA,bb,a⟩:=zn a
 refine z1v (Oc:=[box l [d] 88,aj,al,box t [an] 36]) (Or:=A) _ (fun(s:List Bool×List Int) R O=> ∃ (o:Frag) (p:Value) (q:Frag),(∃ J,O.Perm (J++[box l [d] 88,o,box t [p] 36,q]))∧ORep vw R o d s.1∧capOf d=s.1.length∧ORep (q9 .i64) R q p s.2∧True) (fun(s:List Bool×List Int) (c:Code) R O=>False) _ _ rfl zhc (ny (N:=N) a9 ba) (List.Perm.refl _) (by decide) (by rintro _ _ _ rfl;rfl) (by rintro s R2 R3 O2 aB ⟨o,p,q,hJ,w,z,U,_⟩;exact⟨o,p,q,hJ,w.mono aB,z,U.mono aB,trivial⟩) (fun _ _ _ _ _ _ h=>h) (fun _ _ _ _ _ h=>h.elim) ⟨aj,an,al,⟨[],(pk 0 rfl (pk 0 rfl (pk 1 rfl (pk 0 rfl (List.Perm.refl _)))))⟩,(az.mono E),W,(ao.mono E),trivial⟩ bb ?_ ?_ ?_
 rintro b bc bN bO bl bP bm bn bo aD ⟨o,p,q,⟨_,hJ⟩,w,z,U,_⟩ Z bQ;have f:=Z;clear Z;(try dsimp only at f);refine ic (om hJ) ?_;obtain rfl:=aD;refine zq (jb rfl zcv fun F=>?_)
 refine qj (i:=0) (vs:=[(vi b.fA),(vi b.fB)]) zbd rfl rfl rfl rfl rfl rfl (qa rfl (qa rfl qw)) ?_;refine z8 ?_;refine⟨rfl,rfl,(RH.le.refl _),[box F [(vi b.fA),(vi b.fB)] 86,box l [d] 88,o,box t [p] 36,q],List.Perm.refl _,fun bR=>?_⟩
 refine zy (zl (zi (zg (i:=1) zd3 rfl rfl rfl) (zi (qg z3h rfl) (zi (zg (i:=0) ag3 rfl rfl rfl) ?_))));obtain⟨ap,f⟩:=zb f;refine uj (i:=b.fB.toNat) rfl z8f rfl w (ze rfl ap.1) (zo ap) fun bS be=>?_;refine z0g (i:=b.fB.toNat) (j:=2) rfl ty4 w rfl rfl be (zo ap) fun bp aE=>?_
 obtain rfl:=xc.1 aE;refine zi (cz rfl) (z8 (zw rfl f (fun f=>?_) (fun f=>?_)));refine zl (zi (zg (i:=1) zd3 rfl rfl rfl) (zi (qg z3h rfl) (zi (zg (i:=0) ag3 rfl rfl rfl) ?_)));obtain⟨G,f⟩:=zb f;refine uj (i:=b.fB.toNat) rfl z8f rfl w (ze rfl G.1) (zo G) fun bq aF=>?_
 refine pg (i:=b.fB.toNat) (j:=2) ty4 w rfl rfl aF (zo G) rfl (xc.2 rfl) fun aa aG=>?_
 refine z8 (zq (zi (zg (i:=3) z5f rfl rfl rfl) (zi (qg z3h rfl) (zi (zg (i:=0) ag3 rfl rfl rfl) (p8 (T:=(q9 .i64)) (X:=([b.fB]:List Int)) (ps:=[(0,(vi b.fB))]) (css:=[[(vi b.fB)]]) rfl underlying36 zo3 rfl rfl (kv ⟨rfl,trivial⟩) rfl rfl (by decide) fun aH br V aI=>?_)))))
 refine uk (i:=0) rfl aI fun aJ x aK=>?_;have aL:VRep (tSl true (q9 .i64)) aJ aH ([b.fB]:List Int):=(z01 aK V);obtain⟨ab,f⟩:=zb f
 refine bv (i:=4) (X:=bc.2) (Y:=([b.fB]:List Int)) rfl underlying36 zo3 rfl rfl rfl (U.mono x) (jc (Sub.v (B:=(tSl false (q9 .i64))) (kz Sub.refl (fun _=>rfl)) aL)) ab.1 ab.2 fun H ac I=>?_;refine qj (i:=3) (vs:=[H]) zd7 rfl rfl (uh I) rfl rfl rfl (qa (uu I) qw) ?_;refine z8 ?_
 obtain⟨rfl,rfl⟩:=Prod.mk.inj (Option.some.inj f);exact⟨rfl,x,[box F [(vi b.fA),(vi b.fB)] 86,box l [d] 88,aa,box t [H] 36,ac],List.Perm.refl _,rfl,⟨aa,H,ac,⟨[box F [(vi b.fA),(vi b.fB)] 86],(List.Perm.refl _)⟩,(aG.mono x),(z.trans List.length_set.symm),I,trivial⟩⟩;refine qc ?_
 obtain⟨rfl,rfl⟩:=Prod.mk.inj (Option.some.inj f);exact⟨rfl,(RH.le.refl _),[box F [(vi b.fA),(vi b.fB)] 86,box l [d] 88,o,box t [p] 36,q],List.Perm.refl _,rfl,⟨o,p,q,⟨[box F [(vi b.fA),(vi b.fB)] 86],(List.Perm.refl _)⟩,w,z,U,trivial⟩⟩
 rintro bs bt bf aq ⟨aM,K,aN,⟨_,hJ⟩,aO,ar,L,_⟩;refine⟨_,_,hJ,?_⟩;refine zl (zi (zg (i:=2) z5f rfl rfl rfl) (z8 (zq (jb rfl zkj fun aP=>?_))));refine qj (i:=0) (vs:=[K]) zd7 rfl rfl (uh L) rfl rfl rfl (qa (uu L) qw) ?_;refine z8 ?_
 exact⟨(fun e=>nomatch e),(E.trans aq),jr,(Q,aA.1,aA.2,aM,K,aN,aP),Nat.lt_succ_self _,⟨rfl,trivial⟩,⟨[box t [K] 36],(pk 3 rfl (pk 1 rfl (pk 1 rfl (pk 1 rfl (pk 0 rfl (List.Perm.refl _))))))⟩,a,aO,ar,L,trivial⟩;exact fun _ _ _ _ _ h=>h.elim;refine jq ?_
 exact⟨(fun e=>nomatch e),y,jr,(ay,aj),trivial,⟨[al,box t [ak] 36],(pk 2 rfl (pk 2 rfl (pk 0 rfl (pk 0 rfl (List.Perm.refl _)))))⟩,(Option.some.inj a).symm,az,W,trivial⟩;rintro⟨C,bT⟩ bu bw bU bh aQ ⟨rfl,bi,aR,_⟩;refine zl (zi (zg (i:=0) zd3 rfl rfl rfl) (zk d (z8 (nz (i:=1) rfl bi fun aS aw aT=>?_))))
 have aU:VRep (tSl true vw) aS d C:=(z01 aT aR);refine ql ?_;obtain rfl:=Option.some.inj k;refine qd (D:=[]) (J:=[box l [d] 88]) (rs:=[.tmp 4]) (vs:=[d]) ((af.trans aQ).trans aw) rfl rfl ⟨rfl,trivial⟩ ?_;exact⟨rfl,aU⟩
theorem zzk:Enters prog 64:=enters_of func64 rfl (by kernel_rfl)
theorem zsv{a:Bool}:TyOk prog 88 (tSl a vw):=by
 obtain⟨i,hi,b⟩: ∃ i,prog.info? 88=some i∧i.size=1:=jv (by kernel_rfl);exact ai underlying88 hi rfl b
theorem zqd{a:Bool}:SlOk prog 113 88 (tSl a vw):=⟨underlying113,zsv⟩
theorem zc2{N:Nat}{R:RH}{m:Mach}{aa:Value}(ab:VRep (jl false false) R aa m){r:(List Int)}(w:z5b N m=some r):CallP prog 36 #[aa] R (fun v R'=>VRep (tSl true (q9 .i64)) R' v r):=by
 refine qo (args:=[aa]) func36 rfl rfl fun A=>?_;rw [z5b] at w;refine zl (uz (T:=(jl false false)) rfl rfl rfl ab fun v1 R3 ac h5 h2=>?_);refine zk vs0 (j4 (jg rfl vz ug rfl h2 fun v6 h7=>?_));refine qp rfl z11 rfl h7 fun v8 h9=>?_;refine zi (qm rfl underlying25 rfl (jc h9)) ?_
 obtain⟨M,w⟩:=zb w;refine z1r (T:=(tSl true vw)) (m:=(↑m.rows.length:Int).toNat) (c:=(↑m.rows.length:Int).toNat) rfl underlying113 zyw (ze rfl M.1) (ze rfl M.1) (Nat.le_refl _) (z2i M) (z2l M) fun s aW ad aq=>?_;refine zk s (z8 ?_);obtain⟨d,e,w⟩:=zn w
 refine j6 (γ:=(List (List Bool))×Frag) (rs [4,5,11,23]) (fun g=>[]) (fun g=>[g.2]++A) (fun g R=>d=g.1∧ORep (tSl true vw) R g.2 s g.1∧capOf s=g.1.length∧True) ?_ ?_
 refine zl (zm s (zi (o5 rfl underlying113 rfl aq) (zm (vi 0) (z8 (zy (kg (γ:=Nat×Int×(List (List Bool))×Frag) (rs [4,5,13,23]) (fun g=>[(13,(vi g.2.1))]) (fun g=>[g.2.2.2]++A) (fun g R=>ax N m g.1 g.2.1 g.2.2.1=some d∧ORep (tSl true vw) R g.2.2.2 s g.2.2.1∧capOf s=g.2.2.1.length∧True) (fun g=>g.1) (N,0,(mk (↑m.rows.length:Int) ([]:List Bool)),aW) prm ⟨e,aq,(ad.trans List.length_replicate.symm),trivial⟩ ?_))))))
 clear e;rintro⟨O,x,ae,aX⟩ ch ci F ⟨e,af,W,_⟩;rcases O with _|O;exact qy e;replace e:ax N m (O+1) x ae=some d:=e;rw [ax] at e;refine zl (zi (jd rfl rfl) (z8 (zx (zw rfl e (fun e=>?_) (fun e=>?_)))))
 refine qc (zx (zy (zl (zm (vi x) (zk (vi x) (z8 (zq (zm s (zm (vi x) (zi (ji au rfl rfl (h5.mono F) (ab.mono (ac.trans F))) (zm (vi x) ?_)))))))))));obtain⟨aY,aZ,e⟩:=zn e;refine ja rfl zzk rfl (zhl (ab.mono (ac.trans F)) aZ) fun cj ck G a0=>?_
 obtain⟨ag,e⟩:=zb e;refine uj (i:=x.toNat) rfl zqd rfl (af.mono G) (ze rfl ag.1) (zo ag) fun cl a1=>?_;refine pg (i:=x.toNat) (j:=0) zsv (af.mono G) rfl rfl a1 (zo ag) rfl a0 fun ah a2=>?_;refine z8 (zq ?_);obtain⟨a3,e⟩:=zb e
 refine zi (je rfl rfl a3) (zm (vi (x+1)) (z8 ?_));exact⟨dkt,G,jr,(O,x+1,(up ae x aY),ah),Nat.lt_succ_self _,⟨rfl,trivial⟩,prm,e,a2,(W.trans List.length_set.symm),trivial⟩;refine jq ?_;exact⟨dkt,F,jr,(ae,aX),trivial,prm,(Option.some.inj e).symm,af,W,trivial⟩;rintro⟨d,P⟩ cm cn X ⟨rfl,Q,bh,_⟩
 refine zl (jg rfl vz ug rfl (h2.mono X) fun co a4=>?_);refine qp rfl z11 rfl a4 fun cp a5=>?_;refine zi (qm rfl underlying25 rfl (jc a5)) ?_;obtain⟨S,w⟩:=zb w
 refine z1r (T:=(q9 .i64)) (m:=(↑m.rows.length:Int).toNat) (c:=(↑m.rows.length:Int).toNat) rfl underlying36 zo3 (ze rfl S.1) (ze rfl S.1) (Nat.le_refl _) (z2i S) (z2l S) fun k a6 ai ar=>?_;refine zk k (z8 ?_);obtain⟨H,e,w⟩:=zn w
 refine j6 (γ:=(List Int)×Frag) (rs [6,7,27,63]) (fun g=>[]) (fun g=>[g.2]++A) (fun g R=>H=g.1∧ORep (q9 .i64) R g.2 k g.1∧capOf k=g.1.length∧True) ?_ ?_
 refine zl (zm k (zi (o5 rfl underlying36 rfl ar) (zm (vi 0) (z8 (zy (kg (γ:=Nat×Int×(List Int)×Frag) (rs [6,7,29,63]) (fun g=>[(29,(vi g.2.1))]) (fun g=>[P,g.2.2.2]++A) (fun g R=>z04 N m d g.1 g.2.1 g.2.2.1=some H∧ORep (q9 .i64) R g.2.2.2 k g.2.2.1∧capOf k=g.2.2.1.length∧True) (fun g=>g.1) (N,0,(mk (↑m.rows.length:Int) (0:Int)),a6) ⟨[],(pk 1 rfl (pk 0 rfl (List.Perm.refl _)))⟩ ⟨e,ar,(ai.trans List.length_replicate.symm),trivial⟩ ?_))))))
 clear e;rintro⟨U,a,aj,av⟩ bi cq C ⟨e,aw,Y,_⟩;rcases U with _|U;exact qy e;replace e:z04 N m d (U+1) a aj=some H:=e;rw [z04] at e;refine zl (zi (jd rfl rfl) (z8 (zx (zw rfl e (fun e=>?_) (fun e=>?_)))));refine qc ?_;obtain⟨I,n,e⟩:=zn e
 refine j6 (γ:=(List Int)×Frag) (rs [6,7,31,62]) (fun g=>[]) (fun g=>[P,g.2]++A) (fun g R=>I=g.1∧ORep (q9 .i64) R g.2 k g.1∧capOf k=g.1.length∧True) ?_ ?_
 refine zy (zl (zm (vi a) (zk (vi a) (z8 (zy (kg (γ:=Nat×(List Int)×Frag) (rs [32,62]) (fun g=>[]) (fun g=>[P,g.2.2]++A) (fun g R=>iq N d a g.1 g.2.1=some I∧ORep (q9 .i64) R g.2.2 k g.2.1∧capOf k=g.2.1.length∧True) (fun g=>g.1) (N,aj,av) prm ⟨n,aw,Y,trivial⟩ ?_))))));clear n
 rintro⟨V,b,a7⟩ bj cr E ⟨n,z,Z,_⟩;rcases V with _|V;exact qy n;replace n:iq N d a (V+1) b=some I:=n;rw [iq] at n;refine zx (zx ?_);obtain⟨al,am,ay,an,ao,az,n⟩:=zwu n
 refine ma 24 [] [phX s,phX (vi a),(fun u _=>z0a (tSl true vw) s d u a.toNat),phR (tSl true vw) (ix d a),phX k,phX (vi a),(fun u _=>z0a (q9 .i64) k b u a.toNat),phX (vi (ix b a)),phP vw (ix (ix d a) (ix b a)),phX (.bool (ix (ix d a) (ix b a))),phX (.bool (!(ix (ix d a) (ix b a)))),phX (.bool (!(ix (ix d a) (ix b a)))),phG (true&&((!(ix (ix d a) (ix b a)))==false)) (phX s),phG (true&&((!(ix (ix d a) (ix b a)))==false)) (phX k),phG (true&&((!(ix (ix d a) (ix b a)))==false)) (phX (vi a)),phG (true&&((!(ix (ix d a) (ix b a)))==false)) ((fun u _=>z0a (q9 .i64) k b u a.toNat)),phG (true&&((!(ix (ix d a) (ix b a)))==false)) (phX (vi (ix b a))),phG (true&&((!(ix (ix d a) (ix b a)))==false)) ((fun u _=>z0a (tSl true vw) s d u (ix b a).toNat)),phG (true&&((!(ix (ix d a) (ix b a)))==false)) (phR (tSl true vw) (ix d (ix b a))),phG (true&&((!(ix (ix d a) (ix b a)))==false)) (phX (vi a)),phG (true&&((!(ix (ix d a) (ix b a)))==false)) (phP vw (ix (ix d (ix b a)) a)),phG (true&&((!(ix (ix d a) (ix b a)))==false)) (phX (.bool (ix (ix d (ix b a)) a))),phG (true&&((!(ix (ix d a) (ix b a)))==false)) (phX (.bool (!(ix (ix d (ix b a)) a)))),phX (.bool ((!(ix (ix d a) (ix b a)))||(!(ix (ix d (ix b a)) a))))] mixed (by kernel_rfl) (pq ⟨zt,zt,(fun _ _ _ _ h=>h),rf,zt,zt,(fun _ _ _ _ h=>h),zt,dx,zt,zt,zt,(qx zt),(qx zt),(qx zt),(qx (fun _ _ _ _ h=>h)),(qx zt),(qx (fun _ _ _ _ h=>h)),(qx rf),(qx zt),(qx dx),(qx zt),(qx zt),zt,trivial⟩) ⟨?_,?_,?_,?_,?_,?_,?_,?_,?_,?_,?_,?_,?_,?_,?_,?_,?_,?_,?_,?_,?_,?_,?_,?_,trivial⟩ fun cs t=>?_
 intro l ct f p hd;exact zf rfl rfl rfl (zz (za (p 3 rfl)));intro l cu f p hd;exact zf rfl rfl rfl (zz (za (p 6 rfl)));rintro l cv f p ⟨o,y,_⟩;exact zf rfl rfl rfl (l7 (i:=a.toNat) zqd (o rfl) ((Q.mono (C.trans E)).mono f) (ze (y rfl) al.1) (zo al));rintro l cw f p ⟨o,_⟩
 exact zf rfl rfl rfl (z88 (i:=a.toNat) (j:=0) zsv ((Q.mono (C.trans E)).mono f) rfl rfl (o rfl) (zo al));intro l cx f p hd;exact zf rfl rfl rfl (zz (za (p 5 rfl)));intro l cy f p hd;exact zf rfl rfl rfl (zz (za (p 6 rfl)));rintro l cA f p ⟨o,y,_⟩
 exact zf rfl rfl rfl (l7 (i:=a.toNat) bg (o rfl) (z.mono f) (ze (y rfl) am.1) (zo am));rintro l cB f p ⟨o,_⟩;exact zf rfl rfl rfl (ui (z88 (i:=a.toNat) (j:=1) ty3 (z.mono f) rfl rfl (o rfl) (zo am)) (fun _ _ h=>qh.1 h));rintro l cC f p ⟨o,y,_⟩
 exact zf rfl rfl rfl (tq (i:=(ix b a).toNat) z8f rfl (jc (o rfl)) (ze (y rfl) ay.1) (zo ay));rintro l cD f p ⟨o,_⟩;have ah:=o rfl;exact zf rfl rfl rfl (ui (ut ty4 rfl ah) (fun _ _ h=>xc.1 h));rintro l bk f p ⟨o,_⟩;exact zf rfl rfl rfl (zz (cz (o rfl)));rintro l bl f p ⟨o,_⟩
 exact zf rfl rfl rfl (zz (za (o rfl)));rintro l bm f p ⟨o,_⟩;exact zu (Gj:=true) (Bj:= !(ix (ix d a) (ix b a))) rfl rfl rfl (uf (o rfl)) rfl (fun B q=>zz (za (p 3 rfl)));rintro l bn f p ⟨o,_⟩
 exact zu (Gj:=true) (Bj:= !(ix (ix d a) (ix b a))) rfl rfl rfl (uf (o rfl)) rfl (fun B q=>zz (za (p 5 rfl)));rintro l bo f p ⟨o,_⟩;exact zu (Gj:=true) (Bj:= !(ix (ix d a) (ix b a))) rfl rfl rfl (uf (o rfl)) rfl (fun B q=>zz (za (p 6 rfl)));rintro l bp f p ⟨o,y,d2,_⟩
 exact zu (Gj:=true) (Bj:= !(ix (ix d a) (ix b a))) rfl rfl rfl (uf (d2 rfl)) rfl (fun B q=>l7 (i:=a.toNat) bg (show l 45=k from(o rfl).1 (zh rfl q)) (z.mono f) (ze (show l 46=(vi a) from(y rfl).1 (zh rfl q)) (an (zh B q)).1) (zo (an (zh B q))));rintro l bq f p ⟨o,y,_⟩
 exact zu (Gj:=true) (Bj:= !(ix (ix d a) (ix b a))) rfl rfl rfl (uf (y rfl)) rfl (fun B q=>ui (z88 (i:=a.toNat) (j:=1) ty3 (z.mono f) rfl rfl ((o rfl).1 (zh rfl q)) (zo (an (zh B q)))) (fun _ _ h=>qh.1 h));rintro l br f p ⟨o,y,d2,_⟩
 exact zu (Gj:=true) (Bj:= !(ix (ix d a) (ix b a))) rfl rfl rfl (uf (d2 rfl)) rfl (fun B q=>l7 (i:=(ix b a).toNat) zqd (show l 44=s from(o rfl).1 (zh rfl q)) ((Q.mono (C.trans E)).mono f) (ze (show l 48=(vi (ix b a)) from(y rfl).1 (zh rfl q)) (ao (zh B q)).1) (zo (ao (zh B q))))
 rintro l bs f p ⟨o,y,_⟩;exact zu (Gj:=true) (Bj:= !(ix (ix d a) (ix b a))) rfl rfl rfl (uf (y rfl)) rfl (fun B q=>z88 (i:=(ix b a).toNat) (j:=0) zsv ((Q.mono (C.trans E)).mono f) rfl rfl ((o rfl).1 (zh rfl q)) (zo (ao (zh B q))));rintro l bt f p ⟨o,_⟩
 exact zu (Gj:=true) (Bj:= !(ix (ix d a) (ix b a))) rfl rfl rfl (uf (o rfl)) rfl (fun B q=>zz (za (p 6 rfl)));rintro l bu f p ⟨o,y,d2,_⟩
 exact zu (Gj:=true) (Bj:= !(ix (ix d a) (ix b a))) rfl rfl rfl (uf (d2 rfl)) rfl (fun B q=>tq (i:=a.toNat) z8f rfl (jc ((o rfl).1 (zh rfl q))) (ze (show l 51=(vi a) from(y rfl).1 (zh rfl q)) (az (zh B q)).1) (zo (az (zh B q))));rintro l bv f p ⟨o,y,_⟩
 exact zu (Gj:=true) (Bj:= !(ix (ix d a) (ix b a))) rfl rfl rfl (uf (y rfl)) rfl (fun B q=>ui (ut ty4 rfl ((o rfl).1 (zh rfl q))) (fun _ _ h=>xc.1 h));rintro l bw f p ⟨o,y,_⟩
 exact zu (Gj:=true) (Bj:= !(ix (ix d a) (ix b a))) rfl rfl rfl (uf (y rfl)) rfl (fun B q=>zz (cz (show l 53=(.bool (ix (ix d (ix b a)) a)) from(o rfl).1 (zh rfl q))));rintro l bx f p ⟨o,y,_⟩
 exact zf rfl rfl rfl (zz (ak (o rfl) rfl (fun hb=>(show l 54=(.bool (!(ix (ix d (ix b a)) a))) from(y rfl).1 (zh rfl hb)))));intro cF a9 cG ba cH bz bA bB bC aB bD aC bE bF bG aD bH bI bJ aE bK aF bL aG bM bN bO bP bQ bR bS bT bU bV bW bX bY bZ b0 b1 b2 b3 b4 b5 b6 b7 b8 aH
 obtain rfl:=Eq.symm a9;obtain rfl:=Eq.symm ba;obtain rfl:=Eq.symm aB;obtain rfl:=Eq.symm aC;obtain rfl:=Eq.symm aD;obtain rfl:=Eq.symm aE;obtain rfl:=Eq.symm aF;obtain rfl:=Eq.symm aG;obtain rfl:=Eq.symm aH;refine z8 (zw rfl n (fun n=>?_) (fun n=>?_));refine qc (zy (zq (zm k (zm (vi a) ?_))))
 obtain⟨K,n⟩:=zb n;refine uj (i:=a.toNat) rfl bg rfl (z.mono t) (ze rfl K.1) (zo K) fun b9 aI=>?_;refine z0g (i:=a.toNat) (j:=1) rfl ty3 (z.mono t) rfl rfl aI (zo K) fun ca aJ=>?_;obtain rfl:=qh.1 aJ;obtain⟨aK,n⟩:=zb n;refine zi (je rfl rfl aK) ?_
 obtain⟨L,n⟩:=zb n;refine uj (i:=a.toNat) rfl bg rfl (z.mono t) (ze rfl L.1) (zo L) fun cb aL=>?_;refine pg (i:=a.toNat) (j:=1) ty3 (z.mono t) rfl rfl aL (zo L) rfl (qh.2 rfl) fun aM aN=>?_;refine z8 ?_
 exact⟨dkt,t,jr,(V,(up b a ((ix b a)+1)),aM),Nat.lt_succ_self _,trivial,prm,n,aN,(Z.trans List.length_set.symm),trivial⟩;refine jq ?_;exact⟨dkt,(E.trans t),jr,(b,a7),trivial,prm,(Option.some.inj n).symm,(z.mono t),Z,trivial⟩;rintro⟨I,bb⟩ cc cI aO ⟨rfl,bc,aP,_⟩;refine zq ?_
 obtain⟨aQ,e⟩:=zb e;refine zi (je rfl rfl aQ) (zm (vi (a+1)) (z8 ?_));exact⟨dkt,aO,jr,(U,a+1,I,bb),Nat.lt_succ_self _,⟨rfl,trivial⟩,prm,e,bc,aP,trivial⟩;refine jq ?_;exact⟨dkt,C,jr,(aj,av),trivial,⟨[P],(List.Perm.refl _)⟩,(Option.some.inj e).symm,aw,Y,trivial⟩
 rintro⟨H,cJ⟩ cd cK aR ⟨rfl,be,aS,_⟩;refine zl (zm k (zk k (z8 (nz (i:=0) rfl be fun aT ap aU=>?_))));have aV:VRep (tSl true (q9 .i64)) aT k H:=(z01 aU aS);refine ql ?_;obtain rfl:=Option.some.inj w
 refine qd (D:=[]) (J:=[]) (rs:=[.tmp 2]) (vs:=[k]) (((ac.trans X).trans aR).trans ap) rfl rfl ⟨rfl,trivial⟩ ?_;exact⟨rfl,aV⟩
theorem zw4:Enters prog 36:=enters_of func36 rfl (by kernel_rfl)
theorem z8n{N:Nat}{R:RH}{s:(List Int)}{a:Value}(b:VRep (tSl false (q9 .i64)) R a s){r:(List Int)}(c:z18 N s=some r):CallP prog 37 #[a] R (fun v R'=>VRep (tSl true (q9 .i64)) R' v r):=by
 refine qo (args:=[a]) func37 rfl rfl fun A=>?_;rw [z18] at c;refine zl (zk vs0 (j4 (zm a (zm a (zi (qm rfl underlying36 rfl (jc b)) (zm a (zi (qm rfl underlying36 rfl (jc b)) ?_)))))));obtain⟨d,c⟩:=zb c
 refine zbt (v:=a) (lo:=(0:Int).toNat) (hi:=(↑s.length:Int).toNat) (mx:=(↑s.length:Int).toNat) rfl bg rfl (jc b) (.inl ⟨rfl,rfl⟩) (.inr ⟨_,congrArg some (ze rfl (zeo d))⟩) (.inr ⟨_,congrArg some (ze rfl (zeo d))⟩) (zes d) (z7a d) (Nat.le_refl _) (Nat.le_trans (z7a d) (zoz (jc b))) (X':=(cut s 0 (↑s.length:Int))) rfl fun f g e=>?_
 have h:VRep (tSl true (q9 .i64)) R f (cut s 0 (↑s.length:Int)):=z01 g (e.trans (zn1 d).symm);refine zk f (z8 (ql ?_));obtain rfl:=Option.some.inj c;refine qd (D:=[]) (J:=[]) (rs:=[.tmp 2]) (vs:=[f]) (RH.le.refl _) rfl rfl ⟨rfl,trivial⟩ ?_;exact⟨rfl,h⟩
theorem zwe:Enters prog 37:=enters_of func37 rfl (by kernel_rfl)
theorem zco{N:Nat}{R:RH}{s:(List (List Int))}{a:Value}(b:VRep (tSl false (tSl true (q9 .i64))) R a s){r:(List (List Int))}(c:z1t N s=some r):CallP prog 38 #[a] R (fun v R'=>VRep (tSl true (tSl true (q9 .i64))) R' v r):=by
 refine qo (args:=[a]) func38 rfl rfl fun A=>?_;rw [z1t] at c;refine zl (zk vs0 (j4 (zm a (zm a (zi (qm rfl underlying30 rfl (jc b)) (zm a (zi (qm rfl underlying30 rfl (jc b)) ?_)))))));obtain⟨d,c⟩:=zb c
 refine zbt (v:=a) (lo:=(0:Int).toNat) (hi:=(↑s.length:Int).toNat) (mx:=(↑s.length:Int).toNat) rfl z5e rfl (jc b) (.inl ⟨rfl,rfl⟩) (.inr ⟨_,congrArg some (ze rfl (zeo d))⟩) (.inr ⟨_,congrArg some (ze rfl (zeo d))⟩) (zes d) (z7a d) (Nat.le_refl _) (Nat.le_trans (z7a d) (zoz (jc b))) (X':=(cut s 0 (↑s.length:Int))) rfl fun f g e=>?_
 have h:VRep (tSl true (tSl true (q9 .i64))) R f (cut s 0 (↑s.length:Int)):=z01 g (e.trans (zn1 d).symm);refine zk f (z8 (ql ?_));obtain rfl:=Option.some.inj c;refine qd (D:=[]) (J:=[]) (rs:=[.tmp 2]) (vs:=[f]) (RH.le.refl _) rfl rfl ⟨rfl,trivial⟩ ?_;exact⟨rfl,h⟩
theorem zy1:Enters prog 38:=enters_of func38 rfl (by kernel_rfl)
theorem z6l{N:Nat}{R:RH}{m:Mach}{S:Value}(p:VRep (jl false false) R S m){r:(List (List Int))×Int}(d:z0i N m=some r):CallP prog 13 #[S] R (fun v R'=> ∃ u0,v= .tuple #[u0,(vi r.2)]∧VRep (tSl true (tSl true (q9 .i64))) R' u0 r.1):=by
 refine qo (args:=[S]) func13 rfl rfl fun A=>?_;rw [z0i] at d;refine zl (uz (T:=(jl false false)) rfl rfl rfl p fun v1 R3 o h5 h2=>?_);refine zk vs0 (zk (vi 0) (z8 (zx (zl (zi (ji au rfl rfl h5 (p.mono o)) ?_)))));obtain⟨y6,c7,d⟩:=zn d
 refine ja rfl zmj rfl (z1p (p.mono o) c7) fun v8 bk j h9=>?_;obtain rfl:=h9;refine zk (vi y6) (j4 (zm (vi y6) (zi (gy rfl rfl) (z8 (zw rfl d (fun d=>?_) (fun d=>?_))))));refine zl (zm (vi y6) (zk vs0 (zk (vi y6) (z8 (ql ?_)))));obtain rfl:=Option.some.inj d
 refine qd (D:=[]) (J:=[]) (rs:=[.tmp 2,.tmp 3]) (vs:=[vs0,(vi y6)]) (o.trans j) rfl rfl ⟨rfl,rfl,trivial⟩ ?_;exact⟨rfl,⟨vs0,rfl,aj⟩⟩;refine qc (zl (zi (ji au rfl rfl (h5.mono j) (p.mono (o.trans j))) ?_));obtain⟨k,aN,d⟩:=zn d
 refine ja rfl zw4 rfl (zc2 (p.mono (o.trans j)) aN) fun U bm ah E=>?_;refine zk U (j4 (zk vs0 (z8 ?_)));obtain⟨q,a,d⟩:=zn d
 refine j6 (γ:=(List (List Int))×Value×Frag) (rs [6,12,19,50]) (fun g=>[(6,g.2.1)]) (fun g=>[g.2.2]++A) (fun g R=>q=g.1∧ORep (tSl true (q9 .i64)) R g.2.2 g.2.1 g.1∧True) ?_ ?_;refine zl (zm U (zi (qm rfl underlying36 rfl (jc E)) (zm (vi 0) (z8 (zy (z4n ?_))))))
 refine kg (γ:=Nat×(List (List Int))×Int×Value×Frag) (rs [6,12,21,50]) (fun g=>[(6,g.2.2.2.1),(21,(vi g.2.2.1))]) (fun g=>[g.2.2.2.2]++A) (fun g R=>l9 N k g.1 g.2.1 g.2.2.1=some q∧ORep (tSl true (q9 .i64)) R g.2.2.2.2 g.2.2.2.1 g.2.1∧True) (fun g=>g.1) (N,[],0,vs0,emp) prm ⟨a,(z0v (T:=(tSl true (q9 .i64)))),trivial⟩ ?_
 clear a;rintro⟨F,s,f,V,t⟩ ba bn l ⟨a,W,_⟩;rcases F with _|F;exact qy a;replace a:l9 N k (F+1) s f=some q:=a;rw [l9] at a;refine zl (zi (jd rfl rfl) (z8 (zx (zw rfl a (fun a=>?_) (fun a=>?_)))));refine qc ?_;obtain⟨Z,e,a⟩:=zn a
 refine j6 (γ:=(List (List Int))×Value×Frag) (rs [6,12,23,49]) (fun g=>[(6,g.2.1)]) (fun g=>[g.2.2]++A) (fun g R=>Z=g.1∧ORep (tSl true (q9 .i64)) R g.2.2 g.2.1 g.1∧True) ?_ ?_;refine zy (zl (zm (vi f) ?_));obtain⟨ai,e⟩:=zb e
 refine ww (i:=f.toNat) rfl bg rfl (jc (E.mono l)) (ze rfl ai.1) (zo ai) fun bo aO=>?_;refine qp rfl ty3 rfl aO fun bp aP=>?_;obtain rfl:=qh.1 aP
 refine zk (vi f) (zk (vi (ix k f)) (z8 (zx (zl (zm (vi (ix k f)) (zm (vi f) (zi (gy rfl rfl) (z8 (zw rfl e (fun e=>?_) (fun e=>?_))))))))));refine jq ?_;exact⟨dkt,(RH.le.refl _),jr,(s,V,t),⟨rfl,trivial⟩,prm,(Option.some.inj e).symm,W,trivial⟩
 refine qc (zl (zk vs0 (z8 ?_)));obtain⟨u,b,e⟩:=zn e;refine j6 (γ:=(List Int)×Value×Frag) (rs [9,12,29,44]) (fun g=>[(9,g.2.1)]) (fun g=>[t,g.2.2]++A) (fun g R=>u=g.1∧ORep (q9 .i64) R g.2.2 g.2.1 g.1∧True) ?_ ?_
 refine zl (zm U (zi (qm rfl underlying36 rfl (jc (E.mono l))) (zm (vi 0) (z8 (zy (z4n ?_))))))
 refine kg (γ:=Nat×(List Int)×Int×Value×Frag) (rs [9,12,31,44]) (fun g=>[(9,g.2.2.2.1),(31,(vi g.2.2.1))]) (fun g=>[t,g.2.2.2.2]++A) (fun g R=>ib N k f g.1 g.2.1 g.2.2.1=some u∧ORep (q9 .i64) R g.2.2.2.2 g.2.2.2.1 g.2.1∧True) (fun g=>g.1) (N,[],0,vs0,emp) ⟨[],(pk 1 rfl (pk 0 rfl (List.Perm.refl _)))⟩ ⟨b,(z0v (T:=(q9 .i64))),trivial⟩ ?_
 clear b;rintro⟨G,w,c,aa,ak⟩ bq br I ⟨b,ab,_⟩;rcases G with _|G;exact qy b;replace b:ib N k f (G+1) w c=some u:=b;rw [ib] at b;refine zl (zi (jd rfl rfl) (z8 (zx (zw rfl b (fun b=>?_) (fun b=>?_)))));refine qc ?_;obtain⟨ac,h,b⟩:=zn b
 refine j6 (γ:=(List Int)×Value×Frag) (rs [9,12,33,43]) (fun g=>[(9,g.2.1)]) (fun g=>[t,g.2.2]++A) (fun g R=>ac=g.1∧ORep (q9 .i64) R g.2.2 g.2.1 g.1∧True) ?_ ?_;refine zy (zl (zm (vi c) ?_));obtain⟨al,h⟩:=zb h
 refine ww (i:=c.toNat) rfl bg rfl (jc (E.mono (l.trans I))) (ze rfl al.1) (zo al) fun bs aQ=>?_;refine qp rfl ty3 rfl aQ fun bt aR=>?_;obtain rfl:=qh.1 aR
 refine zk (vi c) (zk (vi (ix k c)) (j4 (zm (vi (ix k c)) (zm (vi f) (zi (ul rfl rfl) (z8 (zw rfl h (fun h=>?_) (fun h=>?_))))))))
 refine zq (zm aa (zm (vi c) (p8 (T:=(q9 .i64)) (X:=([c]:List Int)) (ps:=[(0,(vi c))]) (css:=[[(vi c)]]) rfl underlying36 zo3 rfl rfl (kv ⟨rfl,trivial⟩) rfl rfl (by decide) fun aS bu ad aT=>?_)));refine uk (i:=0) rfl aT fun aU K aV=>?_
 have aW:VRep (tSl true (q9 .i64)) aU aS ([c]:List Int):=(z01 aV ad);obtain⟨am,h⟩:=zb h;refine bv (i:=1) (X:=w) (Y:=([c]:List Int)) rfl underlying36 zo3 rfl rfl rfl (ab.mono K) (jc (Sub.v (B:=(tSl false (q9 .i64))) (kz Sub.refl (fun _=>rfl)) aW)) am.1 am.2 fun an aX aY=>?_;refine zk an (z8 ?_)
 exact⟨dkt,K,jr,((w++([c]:List Int)),an,aX),⟨rfl,trivial⟩,prm,(Option.some.inj h).symm,aY,trivial⟩;refine qc ?_;exact⟨dkt,(RH.le.refl _),jr,(w,aa,ak),⟨rfl,trivial⟩,prm,(Option.some.inj h).symm,ab,trivial⟩;rintro⟨ac,aZ,a0⟩ bw bx ao ⟨rfl,a1,_⟩;refine zq ?_;obtain⟨a2,b⟩:=zb b
 refine zi (je rfl rfl a2) (zm (vi (c+1)) (z8 ?_));exact⟨dkt,ao,jr,(G,ac,c+1,aZ,a0),Nat.lt_succ_self _,⟨rfl,rfl,trivial⟩,prm,b,a1,trivial⟩;refine jq ?_;exact⟨dkt,I,jr,(w,aa,ak),⟨rfl,trivial⟩,prm,(Option.some.inj b).symm,ab,trivial⟩;rintro⟨u,ap,bz⟩ bA bB L ⟨rfl,a3,_⟩
 refine zq (zm V (zm ap (uk (i:=1) rfl a3 fun aq x ar=>?_)));have av:VRep (tSl false (q9 .i64)) aq ap u:=(z6a ar);obtain⟨n,aw,e⟩:=zn e;refine ja rfl zwe rfl (z8n av aw) fun M bb y O=>?_
 refine p8 (T:=(tSl true (q9 .i64))) (X:=([n]:List (List Int))) (ps:=[(0,M)]) (css:=[[M]]) rfl underlying30 zm7 rfl (by simp only [List.map_cons,List.map_nil,lv O];rfl) (kv ⟨(u7 rfl O),trivial⟩) rfl rfl (by decide) fun ax bc H ay=>?_;refine uk (i:=0) rfl ay fun az z aA=>?_
 have aB:VRep (tSl true (tSl true (q9 .i64))) az ax ([n]:List (List Int)):=(z01 aA H);obtain⟨P,e⟩:=zb e
 refine bv (i:=0) (X:=s) (Y:=([n]:List (List Int))) rfl underlying30 zm7 rfl rfl rfl (W.mono (((L.trans x).trans y).trans z)) (jc (Sub.v (B:=(tSl false (tSl true (q9 .i64)))) (kz Sub.refl (fun _=>rfl)) aB)) P.1 P.2 fun Q aC aD=>?_;refine zk Q (z8 ?_)
 exact⟨dkt,(((L.trans x).trans y).trans z),jr,((s++([n]:List (List Int))),Q,aC),⟨rfl,trivial⟩,prm,(Option.some.inj e).symm,aD,trivial⟩;rintro⟨Z,a4,a5⟩ be bC aE ⟨rfl,a6,_⟩;refine zq ?_;obtain⟨aF,a⟩:=zb a;refine zi (je rfl rfl aF) (zm (vi (f+1)) (z8 ?_))
 exact⟨dkt,aE,jr,(F,Z,f+1,a4,a5),Nat.lt_succ_self _,⟨rfl,rfl,trivial⟩,prm,a,a6,trivial⟩;refine jq ?_;exact⟨dkt,l,jr,(s,V,t),⟨rfl,trivial⟩,prm,(Option.some.inj a).symm,W,trivial⟩;rintro⟨q,aG,bD⟩ bf bE aH ⟨rfl,a7,_⟩;refine zl (zm aG (uk (i:=0) rfl a7 fun aI ae aJ=>?_))
 have aK:VRep (tSl false (tSl true (q9 .i64))) aI aG q:=(z6a aJ);obtain⟨bh,aL,d⟩:=zn d;refine ja rfl zy1 rfl (zco aK aL) fun C bi af aM=>?_;refine zk C (zk (vi 0) (z8 (ql ?_)));obtain rfl:=Option.some.inj d
 refine qd (D:=[]) (J:=[]) (rs:=[.tmp 2,.tmp 3]) (vs:=[C,(vi 0)]) (((((o.trans j).trans ah).trans aH).trans ae).trans af) rfl rfl ⟨rfl,rfl,trivial⟩ ?_;exact⟨rfl,⟨C,rfl,aM⟩⟩
end GV
end Go.Proofs.Ytdhccodneoebpaa
