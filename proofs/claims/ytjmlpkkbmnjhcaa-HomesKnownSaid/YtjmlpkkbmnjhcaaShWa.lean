import Derived.Test.YtjmlpkkbmnjhcaaShPlain
import Derived.Test.YtjmlpkkbmnjhcaaRows
set_option linter.unusedVariables false
set_option linter.unusedSimpArgs false
set_option linter.unusedSectionVars false
namespace Go.Proofs.Ytjmlpkkbmnjhcaa
namespace GV
open _root_.Go.Proofs.Try
open Go.IntWalk
set_option maxRecDepth 100000
set_option maxHeartbeats 20000000
theorem zhj: ∀ w,∃ z,(zeroValue 28).run prog w= .ok z w∧z.cells=([.int .i64 0,.int .i64 0,.slice none 0 0]:List Value).toArray:=fun w=>⟨(.agg #[(vi 0),(vi 0),vs0]),by kernel_rfl,rfl⟩
theorem z1l: ∀ w,(sizeOf 28).run prog w= .ok 3 w:=fun w=>by kernel_rfl
theorem z6i:FieldOk prog 28 0 0:=by
 obtain⟨i,hi,a⟩: ∃ i,prog.info? 3=some i∧i.size=1:=pz (by kernel_rfl);exact lv underlying28 rfl rfl hi (by rw [a];rfl)
theorem ag3: ∀ w,(isAgg 3).run prog w= .ok false w:=fun w=>by kernel_rfl
theorem gu:TyOk prog 67 (qa .u16):=by
 obtain⟨i,hi,a⟩: ∃ i,prog.info? 67=some i∧i.size=1:=pz (by kernel_rfl);exact z2e underlying67 hi rfl a
theorem xm:SlOk prog 23 67 (qa .u16):=⟨underlying23,gu⟩
theorem zkq:FieldOk prog 28 1 1:=by
 obtain⟨i,hi,a⟩: ∃ i,prog.info? 3=some i∧i.size=1:=pz (by kernel_rfl);exact lv underlying28 rfl rfl hi (by rw [a];rfl)
theorem zhk:ZeroOk prog 45 kEdge (⟨(0:Int),(0:Int)⟩:Edge) 16:=by
 obtain⟨i,zv,hi,a,c,d,f⟩:=z0j (P:=prog) (e:=45) (zv:=(.agg #[(vi 0),(vi 0)])) (k:=2) (b:=16) (by kernel_rfl);exact⟨i,zv,hi,a,c,d,fun R=>by subst f;exact⟨_,_,rfl,rfl,rfl⟩⟩
theorem mixed:prog.follows .mixedOrders=true:=by kernel_rfl
theorem ry:FieldOk prog 28 2 2:=by
 obtain⟨i,hi,a⟩: ∃ i,prog.info? 26=some i∧i.size=1:=pz (by kernel_rfl);exact lv underlying28 rfl rfl hi (by rw [a];rfl)
theorem zre: ∀ w,(isAgg 26).run prog w= .ok false w:=fun w=>by kernel_rfl
theorem zw1{a:Bool}:ZeroOk prog 46 (tSl a kEdge) ([]:List Edge) 24:=by
 obtain⟨i,zv,hi,c,d,f,g⟩:=z0j (P:=prog) (e:=46) (zv:=vs0) (k:=1) (b:=24) (by kernel_rfl);exact⟨i,zv,hi,c,d,f,fun R=>by subst g;exact(jy rfl z0c)⟩
theorem zxm: ∀ w,(sizeOf 26).run prog w= .ok 1 w:=fun w=>by kernel_rfl
theorem zf8{a:Bool}:TyOk prog 46 (tSl a kEdge):=by
 obtain⟨i,hi,b⟩: ∃ i,prog.info? 46=some i∧i.size=1:=pz (by kernel_rfl);exact z2e underlying46 hi rfl b
theorem zg0{a:Bool}:SlOk prog 26 46 (tSl a kEdge):=⟨underlying26,zf8⟩
theorem zk2:TyOk prog 45 kEdge:=by
 obtain⟨i,hi,a⟩: ∃ i,prog.info? 45=some i∧i.size=2:=pz (by kernel_rfl);exact z2e underlying45 hi rfl a
theorem zei:SlOk prog 46 45 kEdge:=⟨underlying46,zk2⟩
theorem z8q:FieldOk prog 45 0 0:=by
 obtain⟨i,hi,a⟩: ∃ i,prog.info? 3=some i∧i.size=1:=pz (by kernel_rfl);exact lv underlying45 rfl rfl hi (by rw [a];rfl)
theorem ty3:TyOk prog 3 (qa .i64):=by
 obtain⟨i,hi,a⟩: ∃ i,prog.info? 3=some i∧i.size=1:=pz (by kernel_rfl);exact z2e underlying3 hi rfl a
theorem zo3:ZeroOk prog 3 (qa .i64) (0:Int) 8:=by
 obtain⟨i,zv,hi,a,c,d,f⟩:=z0j (P:=prog) (e:=3) (zv:=(vi 0)) (k:=1) (b:=8) (by kernel_rfl);exact⟨i,zv,hi,a,c,d,fun R=>by subst f;exact rfl⟩
theorem z5f:SlOk prog 30 3 (qa .i64):=⟨underlying30,ty3⟩
theorem zse:ZeroOk prog 46 tHdr vs0 24:=by
 obtain⟨i,zv,hi,a,c,d,f⟩:=z0j (P:=prog) (e:=46) (zv:=vs0) (k:=1) (b:=24) (by kernel_rfl);exact⟨i,zv,hi,a,c,d,fun R=>by subst f;exact⟨rfl,rfl⟩⟩
theorem zjk:zas kEdge 0 (qa .i64) (fun(x:Edge) (y:Int)=>(⟨y,x.out⟩:Edge)):=zwh zur (fun _ _=>rfl)
theorem z4d: ∀ w,(isAgg 28).run prog w= .ok true w:=fun w=>by kernel_rfl
theorem z3m{a b:Bool}:TyOk prog 28 (uw a b):=by
 obtain⟨i,hi,c⟩: ∃ i,prog.info? 28=some i∧i.size=3:=pz (by kernel_rfl);exact z2e underlying28 hi rfl c
theorem z6d{a b:Bool}:TyOk prog 26 (tSl a (tSl b kEdge)):=by
 obtain⟨i,hi,c⟩: ∃ i,prog.info? 26=some i∧i.size=1:=pz (by kernel_rfl);exact z2e underlying26 hi rfl c
theorem z5o{N:Nat}{R:RH}{s:(List Edge)}{c:Value}(k:VRep (tSl false kEdge) R c s){f:Edge→Option Bool}{e:Value}(n:FOk1 prog R e kEdge fe f){r:Int}(b:ic N s f=some r):CallP prog 96 #[c,e] R (fun v R'=>v=(vi r)):=by
 refine qm (args:=[c,e]) func96 rfl rfl fun A=>?_;rw [ic] at b;refine zu (zi (vi 0) (za ?_));obtain⟨o,a,b⟩:=zt b;refine qz (γ:=Unit) (rs [4,19]) (fun g=>[]) (fun g=>[]++A) (fun g R=>o=Ex.go g∧True) ?_ ?_
 refine zu (zg c (zx (jh rfl underlying46 rfl (w9 k)) (zg (vi 0) (za (qd (je (γ:=Nat×Int) (rs [4,6,8,19]) (fun g=>[(8,(vi g.2))]) (fun g=>[]++A) (fun g R=>uy N s f g.1 g.2=some o∧True) (fun g=>g.1) (N,0) prm ⟨a,trivial⟩ ?_))))));clear a;rintro⟨m,d⟩ y H h ⟨a,_⟩
 rcases m with _|m;exact j3 a;replace a:uy N s f (m+1) d=some o:=a;rw [uy] at a;refine zu (zx (jv rfl rfl) (za (q8 (q9 rfl a (fun a=>?_) (fun a=>?_)))))
 refine qc (q8 (qd (zu (zg (vi d) (zi (vi d) (qo (zg e (zg c (zg (vi d) ?_)))))))));obtain⟨l,a⟩:=ze a;refine ay (i:=d.toNat) rfl zei rfl (w9 (k.mono h)) (zm rfl l.1) (zy l) fun z p=>?_;refine ku rfl zk2 rfl p fun B q=>?_;obtain rfl:=z1g.1 q
 obtain⟨C,t,a⟩:=zt a;refine z0g rfl rfl rfl ((n.mono h) _ (RH.le.refl _) (ix s d) _ _ (z1g.2 rfl) t) fun E F j u=>?_;obtain rfl:=su.1 u;refine za (q9 rfl a (fun a=>?_) (fun a=>?_));refine zu (zg (vi d) (zi (vi d) (za (ql ?_))));replace b:=z06 a b;obtain rfl:=Option.some.inj b
 refine qf (D:=[]) (J:=[]) (rs:=[.tmp 4]) (vs:=[(vi d)]) (h.trans j) rfl rfl ⟨rfl,trivial⟩ ?_;exact⟨rfl,rfl⟩;refine qc (zz ?_);obtain⟨w,a⟩:=ze a;refine zx (qx rfl rfl w) (zg (vi (d+1)) (za ?_));exact⟨dkt,j,jo,(m,d+1),Nat.lt_succ_self _,⟨rfl,trivial⟩,prm,a,trivial⟩;refine jr ?_
 exact⟨dkt,h,jo,(),trivial,prm,(Option.some.inj a).symm,trivial⟩;rintro I G K x ⟨rfl,_⟩;replace b:=z0t b;refine zu (zi (vi (-1)) (za (ql ?_)));obtain rfl:=Option.some.inj b;refine qf (D:=[]) (J:=[]) (rs:=[.tmp 4]) (vs:=[(vi (-1))]) x rfl rfl ⟨rfl,trivial⟩ ?_;exact⟨rfl,rfl⟩
theorem zz4:Enters prog 96:=enters_of func96 rfl (by kernel_rfl)
theorem z4g{N:Nat}{R:RH}{s:(List Edge)}{a:Value}(d:VRep (tSl false kEdge) R a s){f:Edge→Option Bool}{b:Value}(e:FOk1 prog R b kEdge fe f){r:Bool}(c:tq N s f=some r):CallP prog 69 #[a,b] R (fun v R'=>v=(.bool r)):=by
 refine qm (args:=[a,b]) func69 rfl rfl fun A=>?_;rw [tq] at c;refine zu (zi (.bool false) (qo (zg a (zg b ?_))));obtain⟨h,i,c⟩:=zt c;refine ja rfl zz4 rfl (z5o d e i) fun k l g j=>?_;obtain rfl:=j
 refine zx (sj rfl rfl) (zi (.bool (decide (0≤h))) (za (ql ?_)));obtain rfl:=Option.some.inj c;refine qf (D:=[]) (J:=[]) (rs:=[.tmp 4]) (vs:=[(.bool (decide (0≤h)))]) g rfl rfl ⟨rfl,trivial⟩ ?_;exact⟨rfl,rfl⟩
theorem zzd:Enters prog 69:=enters_of func69 rfl (by kernel_rfl)
theorem zq3: ∀ w,∃ z,(zeroValue 45).run prog w= .ok z w∧z.cells=([.int .i64 0,.int .i64 0]:List Value).toArray:=fun w=>⟨(.agg #[(vi 0),(vi 0)]),by kernel_rfl,rfl⟩
theorem zdr: ∀ w,(sizeOf 45).run prog w= .ok 2 w:=fun w=>by kernel_rfl
theorem zpa: ∀ w,(isAgg 45).run prog w= .ok true w:=fun w=>by kernel_rfl
theorem z5h{N:Nat}{R:RH}  {r:Edge} (a:z0n N  =some r):CallP prog 73 #[] R (fun v R'=>v=(z0x r)):=by
 refine qm (args:=[]) func73 rfl rfl fun A=>?_;rw [z0n] at a;refine zu (mh rfl zq3 fun b=>?_)
 refine qo (zx (wh (ps:=[(0,(vi (-1))),(1,(vi (-1)))]) (v:=(.agg #[(vi (-1)),(vi (-1))])) rfl (fun w=>by kernel_rfl)) (dm (i:=0) (vs:=[(vi (-1)),(vi (-1))]) zdr rfl rfl rfl rfl rfl rfl (j5 rfl (j5 rfl ny)) ?_));refine za (ql ?_);obtain rfl:=Option.some.inj a
 refine qf (D:=[]) (J:=[box b [(vi (-1)),(vi (-1))] 45]) (rs:=[.cell 0 45]) (vs:=[(.agg #[(vi (-1)),(vi (-1))])]) (RH.le.refl _) rfl rfl ⟨⟨_,rfl,fun w c=>z5q (i:=0) c rfl rfl zpa zdr rfl rfl⟩,trivial⟩ ?_;exact⟨rfl,rfl⟩
theorem zvf:Enters prog 73:=enters_of func73 rfl (by kernel_rfl)
theorem zx9:zpd prog 45:=zi6 (f0:=((prog.fieldsOf 45).toList.getD 0 default)) (f1:=((prog.fieldsOf 45).toList.getD 1 default)) (by kernel_rfl) (by kernel_rfl) (by kernel_rfl) (by kernel_rfl) (by kernel_rfl) (by kernel_rfl) (by kernel_rfl) (by kernel_rfl) (by kernel_rfl) (by kernel_rfl)
theorem zha:FieldOk prog 45 1 1:=by
 obtain⟨i,hi,a⟩: ∃ i,prog.info? 3=some i∧i.size=1:=pz (by kernel_rfl);exact lv underlying45 rfl rfl hi (by rw [a];rfl)
theorem zdl{N:Nat}{R:RH}{m:Mach}{p:Value}(w:VRep (uw false false) R p m){x:Edge}{r:Bool}(n:z7f N m x=some r):CallP prog 71 #[p,(z0x x)] R (fun v R'=>v=(.bool r)):=by
 refine qm (args:=[p,(z0x x)]) func71 rfl rfl fun A=>?_;rw [z7f] at n;refine zu (ah (T:=(uw false false)) rfl rfl rfl w fun v1 R3 y h5 I=>?_);refine z6x (T:=kEdge) rfl rfl (z1g.2 rfl) fun v6 R8 q t=>?_;refine zi (.bool false) (za (q8 ?_));obtain⟨b,z,n⟩:=zt n
 let G1:=((decide (x.to=b.to∧x.out=b.out))||((((decide (0≤x.to))&&(decide (x.to<(↑m.rows.length:Int))))&&(decide (0≤x.out)))&&(decide (x.out<m.outputs))));let K:=((((decide (0≤x.to))&&(decide (x.to<(↑m.rows.length:Int))))&&(decide (0≤x.out)))&&(decide (x.out<m.outputs)))
 let o:=(((decide (0≤x.to))&&(decide (x.to<(↑m.rows.length:Int))))&&(decide (0≤x.out)));let k:=((decide (0≤x.to))&&(decide (x.to<(↑m.rows.length:Int))));let e:=(true&&((decide (x.to=b.to∧x.out=b.out))==false))
 refine o5 29 [] [phX (z0x x),phX (z0x b),phX (.bool (decide (x.to=b.to∧x.out=b.out))),phX (.bool (decide (x.to=b.to∧x.out=b.out))),phG e (phP (qa .i64) x.to),phG e (phX (vi x.to)),phG e (phX (.bool (decide (0≤x.to)))),phG e (phX (.bool (decide (0≤x.to)))),phG (e&&((decide (0≤x.to))==true)) (phP (qa .i64) x.to),phG (e&&((decide (0≤x.to))==true)) (phX (vi x.to)),phG (e&&((decide (0≤x.to))==true)) (phP (tSl false (tSl false kEdge)) m.rows),phG (e&&((decide (0≤x.to))==true)) (phR (tSl false (tSl false kEdge)) m.rows),phG (e&&((decide (0≤x.to))==true)) (phX (vi (↑m.rows.length:Int))),phG (e&&((decide (0≤x.to))==true)) (phX (.bool (decide (x.to<(↑m.rows.length:Int))))),phG e (phX (.bool k)),phG e (phX (.bool k)),phG (e&&(k==true)) (phP (qa .i64) x.out),phG (e&&(k==true)) (phX (vi x.out)),phG (e&&(k==true)) (phX (.bool (decide (0≤x.out)))),phG e (phX (.bool o)),phG e (phX (.bool o)),phG (e&&(o==true)) (phP (qa .i64) x.out),phG (e&&(o==true)) (phX (vi x.out)),phG (e&&(o==true)) (phP (qa .i64) m.outputs),phG (e&&(o==true)) (phX (vi m.outputs)),phG (e&&(o==true)) (phX (.bool (decide (x.out<m.outputs)))),phG e (phX (.bool K)),phX (.bool G1),phX (.bool G1)] mixed (by kernel_rfl) (pu ⟨zf,zf,zf,zf,(qp z5c),(qp zf),(qp zf),(qp zf),(qp z5c),(qp zf),(qp z5c),(qp z6l),(qp zf),(qp zf),(qp zf),(qp zf),(qp z5c),(qp zf),(qp zf),(qp zf),(qp zf),(qp z5c),(qp zf),(qp z5c),(qp zf),(qp zf),(qp zf),zf,zf,trivial⟩) ⟨?_,?_,?_,?_,?_,?_,?_,?_,?_,?_,?_,?_,?_,?_,?_,?_,?_,?_,?_,?_,?_,?_,?_,?_,?_,?_,?_,?_,?_,trivial⟩ fun aj u=>?_
 intro l ak a g hd;exact zh rfl rfl rfl (j4 (z0y zk2 (g 3 rfl) (t.mono a)) (fun _ _ h=>z1g.1 h));intro l al a g hd;exact zh rfl rfl rfl (yh (vs:=[]) zvf rfl (z5h  z) (fun _ _ h=>h));rintro l am a g ⟨c,f,_⟩;exact zh rfl rfl rfl (zl (zjs zx9 (c rfl) (f rfl)));rintro l an a g ⟨c,f,_⟩
 exact zh rfl rfl rfl (zl (z8 (c rfl)));rintro l ao a g ⟨c,_⟩;exact zw (Gj:=true) (Bj:=decide (x.to=b.to∧x.out=b.out)) rfl rfl rfl (ji (c rfl)) rfl (fun i d=>z4f z8q z7w (g 3 rfl) (t.mono a));rintro l ap a g ⟨c,f,_⟩
 exact zw (Gj:=true) (Bj:=decide (x.to=b.to∧x.out=b.out)) rfl rfl rfl (ji (f rfl)) rfl (fun i d=>j4 (z0y ty3 rfl ((c rfl).1 (zq rfl d))) (fun _ _ h=>qb.1 h));rintro l aq a g ⟨c,f,_⟩
 exact zw (Gj:=true) (Bj:=decide (x.to=b.to∧x.out=b.out)) rfl rfl rfl (ji (f rfl)) rfl (fun i d=>zl (sj (show l 10=(vi x.to) from(c rfl).1 (zq rfl d)) rfl));rintro l ar a g ⟨c,f,j,_⟩
 exact zw (Gj:=true) (Bj:=decide (x.to=b.to∧x.out=b.out)) rfl rfl rfl (ji (f rfl)) rfl (fun i d=>zl (z8 (show l 11=(.bool (decide (0≤x.to))) from(c rfl).1 (zq rfl d))));rintro l au a g ⟨c,_⟩;exact zw (Gj:=e) (Bj:=decide (0≤x.to)) rfl rfl rfl (c rfl) rfl (fun i d=>z4f z8q z7w (g 3 rfl) (t.mono a))
 rintro l aw a g ⟨c,f,_⟩;exact zw (Gj:=e) (Bj:=decide (0≤x.to)) rfl rfl rfl (f rfl) rfl (fun i d=>j4 (z0y ty3 rfl ((c rfl).1 (zq i d))) (fun _ _ h=>qb.1 h));rintro l L a g ⟨c,_⟩;exact zw (Gj:=e) (Bj:=decide (0≤x.to)) rfl rfl rfl (c rfl) rfl (fun i d=>z4f ry ai (g 2 rfl) ((I.mono q).mono a))
 rintro l M a g ⟨c,f,_⟩;exact zw (Gj:=e) (Bj:=decide (0≤x.to)) rfl rfl rfl (f rfl) rfl (fun i d=>z0y z6d rfl ((c rfl).1 (zq i d)));rintro l O a g ⟨c,f,_⟩;exact zw (Gj:=e) (Bj:=decide (0≤x.to)) rfl rfl rfl (f rfl) rfl (fun i d=>zl (jh rfl underlying26 rfl (w9 ((c rfl).1 (zq i d)))))
 rintro l P a g ⟨c,f,j,_⟩;exact zw (Gj:=e) (Bj:=decide (0≤x.to)) rfl rfl rfl (j rfl) rfl (fun i d=>zl (jv (show l 14=(vi x.to) from(c rfl).1 (zq i d)) (show l 17=(vi (↑m.rows.length:Int)) from(f rfl).1 (zq i d))));rintro l Q a g ⟨c,f,j,_⟩
 exact zw (Gj:=true) (Bj:=decide (x.to=b.to∧x.out=b.out)) rfl rfl rfl (ji (j rfl)) rfl (fun i d=>zl (xk (show l 12=(.bool (decide (0≤x.to))) from(c rfl).1 (zq rfl d)) (fun s=>(show l 18=(.bool (decide (x.to<(↑m.rows.length:Int)))) from(f rfl).1 (zq (zq rfl d) s))) rfl));rintro l S a g ⟨c,f,j,_⟩
 exact zw (Gj:=true) (Bj:=decide (x.to=b.to∧x.out=b.out)) rfl rfl rfl (ji (j rfl)) rfl (fun i d=>zl (z8 (show l 19=(.bool k) from(c rfl).1 (zq rfl d))));rintro l U a g ⟨c,_⟩
 exact zw (Gj:=e) (Bj:=(decide (0≤x.to))&&(decide (x.to<(↑m.rows.length:Int)))) rfl rfl rfl (c rfl) rfl (fun i d=>z4f zha zfi (g 3 rfl) (t.mono a));rintro l V a g ⟨c,f,_⟩
 exact zw (Gj:=e) (Bj:=(decide (0≤x.to))&&(decide (x.to<(↑m.rows.length:Int)))) rfl rfl rfl (f rfl) rfl (fun i d=>j4 (z0y ty3 rfl ((c rfl).1 (zq i d))) (fun _ _ h=>qb.1 h));rintro l W a g ⟨c,f,_⟩
 exact zw (Gj:=e) (Bj:=(decide (0≤x.to))&&(decide (x.to<(↑m.rows.length:Int)))) rfl rfl rfl (f rfl) rfl (fun i d=>zl (sj (show l 22=(vi x.out) from(c rfl).1 (zq i d)) rfl));rintro l X a g ⟨c,f,j,_⟩
 exact zw (Gj:=true) (Bj:=decide (x.to=b.to∧x.out=b.out)) rfl rfl rfl (ji (j rfl)) rfl (fun i d=>zl (xk (show l 20=(.bool k) from(c rfl).1 (zq rfl d)) (fun s=>(show l 23=(.bool (decide (0≤x.out))) from(f rfl).1 (zq (zq rfl d) s))) rfl));rintro l Y a g ⟨c,f,j,_⟩
 exact zw (Gj:=true) (Bj:=decide (x.to=b.to∧x.out=b.out)) rfl rfl rfl (ji (j rfl)) rfl (fun i d=>zl (z8 (show l 24=(.bool o) from(c rfl).1 (zq rfl d))));rintro l Z a g ⟨c,_⟩;exact zw (Gj:=e) (Bj:=k&&(decide (0≤x.out))) rfl rfl rfl (c rfl) rfl (fun i d=>z4f zha zfi (g 3 rfl) (t.mono a))
 rintro l aa a g ⟨c,f,_⟩;exact zw (Gj:=e) (Bj:=k&&(decide (0≤x.out))) rfl rfl rfl (f rfl) rfl (fun i d=>j4 (z0y ty3 rfl ((c rfl).1 (zq i d))) (fun _ _ h=>qb.1 h));rintro l ab a g ⟨c,_⟩
 exact zw (Gj:=e) (Bj:=k&&(decide (0≤x.out))) rfl rfl rfl (c rfl) rfl (fun i d=>z4f zkq zfe (g 2 rfl) ((I.mono q).mono a));rintro l ac a g ⟨c,f,_⟩;exact zw (Gj:=e) (Bj:=k&&(decide (0≤x.out))) rfl rfl rfl (f rfl) rfl (fun i d=>j4 (z0y ty3 rfl ((c rfl).1 (zq i d))) (fun _ _ h=>qb.1 h))
 rintro l ad a g ⟨c,f,j,_⟩;exact zw (Gj:=e) (Bj:=k&&(decide (0≤x.out))) rfl rfl rfl (j rfl) rfl (fun i d=>zl (jv (show l 27=(vi x.out) from(c rfl).1 (zq i d)) (show l 29=(vi m.outputs) from(f rfl).1 (zq i d))));rintro l ae a g ⟨c,f,j,_⟩
 exact zw (Gj:=true) (Bj:=decide (x.to=b.to∧x.out=b.out)) rfl rfl rfl (ji (j rfl)) rfl (fun i d=>zl (xk (show l 25=(.bool o) from(c rfl).1 (zq rfl d)) (fun s=>(show l 30=(.bool (decide (x.out<m.outputs))) from(f rfl).1 (zq (zq rfl d) s))) rfl));rintro l af a g ⟨c,f,_⟩
 exact zh rfl rfl rfl (zl (av (c rfl) rfl (fun s=>(show l 31=(.bool K) from(f rfl).1 (zq rfl s)))));rintro l ag a g ⟨c,f,j,d3,d4,d5,d6,d7,d8,d9,ax,ay,az,aA,aB,aC,aD,aE,aF,aG,aH,aI,aJ,aK,aL,aM,aN,aO,aP,aQ,_⟩;exact zh rfl rfl rfl (zl (z00 (c rfl)))
 intro aR B aS C aT E aU F aV aW aX aY aZ a0 a1 a2 a3 a4 a5 a6 a7 a8 a9 ba bb bc be bf bg bh bi bj bk bl bm bn bo bp bq br bs bt bu bv bw bx bz bA bB bC bD bE bF bG bH G bI H;obtain rfl:=Eq.symm B;obtain rfl:=Eq.symm C;obtain rfl:=Eq.symm E;obtain rfl:=Eq.symm F;obtain rfl:=Eq.symm G;obtain rfl:=Eq.symm H
 refine za (ql ?_);obtain rfl:=Option.some.inj n;refine qf (D:=[]) (J:=[]) (rs:=[.tmp 4]) (vs:=[(.bool G1)]) ((y.trans q).trans u) rfl rfl ⟨rfl,trivial⟩ ?_;exact⟨rfl,rfl⟩
theorem zyf:Enters prog 71:=enters_of func71 rfl (by kernel_rfl)
theorem zbk{N:Nat}{R:RH}{x:Edge}{p0_:Mach}{a:Value}(c:PRep (uw false false) R a p0_){r:Bool}(b:z4j N x p0_=some r):CallP prog 70 #[(z0x x),a] R (fun v R'=>v=(.bool r)):=by
 refine qm (args:=[(z0x x),a]) func70 rfl rfl fun A=>?_;rw [z4j] at b;refine zu (z6x (T:=kEdge) rfl rfl (z1g.2 rfl) fun n o d i=>?_);refine zi (.bool false) (qo (ku rfl z3m rfl (c.mono d) fun p j=>?_));refine ku rfl zk2 rfl i fun q k=>?_;obtain rfl:=z1g.1 k
 obtain⟨h,f,b⟩:=zt b;refine ja rfl zyf rfl (zdl j f) fun l m e g=>?_;obtain rfl:=g;refine zx (iy rfl) (zi (.bool (!h)) (za (ql ?_)));obtain rfl:=Option.some.inj b;refine qf (D:=[]) (J:=[]) (rs:=[.tmp 3]) (vs:=[(.bool (!h))]) (d.trans e) rfl rfl ⟨rfl,trivial⟩ ?_;exact⟨rfl,rfl⟩
theorem zy9:Enters prog 70:=enters_of func70 rfl (by kernel_rfl)
theorem z88{N:Nat}{R:RH}{m:Mach}{q:Value}(F:VRep (uw false false) R q m){r:Int}(b:z0z N m=some r):CallP prog 60 #[q] R (fun v R'=>v=(vi r)):=by
 refine qm (args:=[q]) func60 rfl rfl fun A=>?_;rw [z0z] at b;refine zu (ah (T:=(uw false false)) rfl rfl rfl F fun E R3 k h5 l=>?_);refine zi (vi 0) (za (q8 (zu (ztm rfl (ax z6i z1p rfl l) fun v6 h7=>?_))))
 refine jd rfl (lh (xe ty3 rfl h7)) (jd rfl (l5 rfl rfl) (jd (v:=(.bool (decide (16<m.inputs)))) rfl (z8 rfl) (qw rfl rfl rfl rfl (fun c=>ax zkq zfe rfl l) fun am G=>?_)));refine qw rfl rfl rfl rfl (fun c=>qi (lh (xe ty3 rfl (G.1 (zq rfl c))))) fun an H=>?_
 refine qw rfl rfl rfl rfl (fun c=>qi (l5 (H.1 (zq rfl c)) rfl)) fun ao I=>?_;refine jd rfl (av rfl rfl (fun n=>(I.1 (zq rfl n)))) (jd (v:=(.bool ((decide (16<m.inputs))||(decide (16<m.outputs))))) rfl (z8 rfl) (qw rfl rfl rfl rfl (fun c=>ax ry ai rfl l) fun ap K=>?_))
 refine qw rfl rfl rfl rfl (fun c=>xe z6d rfl (K.1 (zq rfl c))) fun aq L=>?_;refine qw rfl rfl rfl rfl (fun c=>qi (jh rfl underlying26 rfl (w9 (L.1 (zq rfl c))))) fun ar M=>?_;refine qw rfl rfl rfl rfl (fun c=>qi (l5 (M.1 (zq rfl c)) rfl)) fun au O=>?_
 refine jd rfl (av rfl rfl (fun n=>(O.1 (zq rfl n)))) (za (q9 rfl b (fun b=>?_) (fun b=>?_)));refine zu (zi (vi 3) (za (ql ?_)));obtain rfl:=Option.some.inj b;refine qf (D:=[]) (J:=[]) (rs:=[.tmp 2]) (vs:=[(vi 3)]) k rfl rfl ⟨rfl,trivial⟩ ?_;exact⟨rfl,rfl⟩
 refine qc (q8 (zu (ztm rfl (ax z6i z1p rfl l) fun aw P=>?_)));refine jd rfl (lh (xe ty3 rfl P)) (jd rfl (jv rfl rfl) (jd (v:=(.bool (decide (m.inputs<1)))) rfl (z8 rfl) (qw rfl rfl rfl rfl (fun c=>ax zkq zfe rfl l) fun az Q=>?_)))
 refine qw rfl rfl rfl rfl (fun c=>qi (lh (xe ty3 rfl (Q.1 (zq rfl c))))) fun aA S=>?_;refine qw rfl rfl rfl rfl (fun c=>qi (jv (S.1 (zq rfl c)) rfl)) fun aB U=>?_
 refine jd rfl (av rfl rfl (fun n=>(U.1 (zq rfl n)))) (jd (v:=(.bool ((decide (m.inputs<1))||(decide (m.outputs<1))))) rfl (z8 rfl) (qw rfl rfl rfl rfl (fun c=>ax ry ai rfl l) fun aC V=>?_));refine qw rfl rfl rfl rfl (fun c=>xe z6d rfl (V.1 (zq rfl c))) fun aD W=>?_
 refine qw rfl rfl rfl rfl (fun c=>qi (jh rfl underlying26 rfl (w9 (W.1 (zq rfl c))))) fun aE X=>?_;refine qw rfl rfl rfl rfl (fun c=>qi (jv (X.1 (zq rfl c)) rfl)) fun aF Y=>?_;refine jd rfl (av rfl rfl (fun n=>(Y.1 (zq rfl n)))) (za (q9 rfl b (fun b=>?_) (fun b=>?_)))
 refine zu (zi (vi 1) (za (ql ?_)));obtain rfl:=Option.some.inj b;refine qf (D:=[]) (J:=[]) (rs:=[.tmp 2]) (vs:=[(vi 1)]) k rfl rfl ⟨rfl,trivial⟩ ?_;exact⟨rfl,rfl⟩;refine qc ?_;obtain⟨s,a,b⟩:=zt b;refine qz (γ:=Unit) (rs [2,3,4,5,33,51]) (fun g=>[]) (fun g=>[]++A) (fun g R=>s=Ex.go g∧True) ?_ ?_
 refine zu (dz rfl ry ai rfl l fun aG Z=>?_);refine ku rfl z6d rfl Z fun aH t=>?_
 refine zx (jh rfl underlying26 rfl (w9 t)) (zg (vi 0) (za (qd (je (γ:=Nat×Int) (rs [2,3,4,5,36,51]) (fun g=>[(36,(vi g.2))]) (fun g=>[]++A) (fun g R=>oo N m g.1 g.2=some s∧True) (fun g=>g.1) (N,0) prm ⟨a,trivial⟩ ?_))));clear a;rintro⟨o,e⟩ aj aI d ⟨a,_⟩;rcases o with _|o
 exact j3 a;replace a:oo N m (o+1) e=some s:=a;rw [oo] at a;refine zu (zx (jv rfl rfl) (za (q8 (q9 rfl a (fun a=>?_) (fun a=>?_)))));refine qc (q8 (qd (zu ?_)));obtain⟨u,a⟩:=ze a
 refine ay (i:=e.toNat) rfl zg0 rfl (w9 (t.mono d)) (zm rfl u.1) (zy u) fun aJ aa=>?_;refine ku rfl zf8 rfl aa fun p w=>?_;refine zi p (qo (jd (v:=p) rfl (z8 rfl) (jd rfl (jh rfl underlying46 rfl (w9 w)) (ztm rfl (ax z6i z1p rfl (l.mono d)) fun aK ab=>?_))))
 refine jd rfl (lh (xe ty3 rfl ab)) (jd rfl (yt rfl rfl) (jd (v:=(.bool (decide ((↑(ix m.rows e).length:Int)≠m.inputs)))) rfl (z8 rfl) (qw rfl rfl rfl rfl (fun c=>qi (v:=p) (z8 rfl)) fun aL ac=>?_)))
 refine qw rfl rfl rfl rfl (fun c=>qi (v:=(.func (.func 70) #[] #[E])) (z0q (fs:=[]) (cs:=[E]) rfl rfl)) fun aM ad=>?_;obtain⟨ae,af,a⟩:=zt a
 refine z0p rfl rfl rfl rfl (fun c=>yh (vs:=[p,(.func (.func 70) #[] #[E])]) zzd (z4y (ac.1 (zq rfl c)) (z4y (ad.1 (zq rfl c)) rfl)) ((by have ag:=(r9 af (zq rfl c));exact z4g w (z5p (cs:=[E]) zy9 fun R1 hq z0 u0 y k0 hy=>by obtain rfl:=z1g.1 k0;exact CallP.mono (zbk ((l.mono d).mono hq) hy) fun v R2 _ hv=>su.2 hv) ag)) (fun _ _ h=>h)) fun x z f j=>?_
 replace j:phG (true&&((decide ((↑(ix m.rows e).length:Int)≠m.inputs))==false)) (phX (.bool (ae.getD default))) x z:=j;refine jd rfl (av rfl rfl (fun n=>(j.1 (zq rfl n)))) (za (q9 rfl a (fun a=>?_) (fun a=>?_)));refine zu (zi (vi 1) (za (ql ?_)));replace b:=z06 a b;obtain rfl:=Option.some.inj b
 refine qf (D:=[]) (J:=[]) (rs:=[.tmp 2]) (vs:=[(vi 1)]) ((k.trans d).trans f) rfl rfl ⟨rfl,trivial⟩ ?_;exact⟨rfl,rfl⟩;refine qc (zz ?_);obtain⟨B,a⟩:=ze a;refine zx (qx rfl rfl B) (zg (vi (e+1)) (za ?_));exact⟨dkt,f,jo,(o,e+1),Nat.lt_succ_self _,⟨rfl,trivial⟩,prm,a,trivial⟩
 refine jr ?_;exact⟨dkt,d,jo,(),trivial,prm,(Option.some.inj a).symm,trivial⟩;rintro aR ak aS C ⟨rfl,_⟩;replace b:=z0t b;refine zu (zi (vi 0) (za (ql ?_)));obtain rfl:=Option.some.inj b;refine qf (D:=[]) (J:=[]) (rs:=[.tmp 2]) (vs:=[(vi 0)]) (k.trans C) rfl rfl ⟨rfl,trivial⟩ ?_;exact⟨rfl,rfl⟩
theorem zwv:Enters prog 60:=enters_of func60 rfl (by kernel_rfl)
theorem zxb: ∀ w,∃ z,(zeroValue 111).run prog w= .ok z w∧z.cells=([.slice none 0 0]:List Value).toArray:=fun w=>⟨vs0,by kernel_rfl,rfl⟩
theorem zcu{N:Nat}{R:RH}{m:Mach}{a:Value}(d:VRep (uw false false) R a m){r:Mach}(b:z3v N m=some r):CallP prog 72 #[a] R (fun v R'=> ∃ f,v= .func (.func 97) #[] #[f]∧PRep (uw false false) R' f r):=by
 refine qm (args:=[a]) func72 rfl rfl fun A=>?_;rw [z3v] at b;refine zu (ah (T:=(uw false false)) rfl rfl rfl d fun c h e i g=>?_);refine zi .nilFunc (qo (zx (z0q (fs:=[]) (cs:=[c]) rfl rfl) (zi (.func (.func 97) #[] #[c]) (za (ql ?_)))));obtain rfl:=Option.some.inj b
 refine qf (D:=[]) (J:=[]) (rs:=[.tmp 2]) (vs:=[(.func (.func 97) #[] #[c])]) e rfl rfl ⟨rfl,trivial⟩ ?_;exact⟨rfl,⟨c,rfl,g⟩⟩
theorem zyt:Enters prog 72:=enters_of func72 rfl (by kernel_rfl)
theorem zbg{N:Nat}{R:RH}{p0_:Mach}{e:Value}(r:PRep (uw false false) R e p0_):zu9 prog 97 [e] R (fun(x:((Int×Int)×Edge)) vs R=>vs=[(ak x.1),(z0x x.2)]) (fun σ B s=>z0w N p0_ σ B s):=by
 intro yv σ B I R1 O s0 Y C ab h0 c hy;refine dn (args:=[yv,e]) func97 rfl rfl fun A=>?_;dsimp only at c;rw [z0w] at c;refine zu (dz rfl ry ai rfl (r.mono C) fun v1 h2=>?_);refine ku rfl z6d rfl h2 fun v3 Z=>?_
 refine zx (jh rfl underlying26 rfl (w9 Z)) (zg (vi 0) (za (qd (je (γ:=Nat×σ×Int×(List Frag)) (rs [3,7,10,31]) (fun g=>[(10,(vi g.2.2.1))]) (fun g=>[]++(g.2.2.2++A)) (fun g R=>o8 N σ B p0_ g.1 g.2.1 g.2.2.1=some Y∧I g.2.1 R g.2.2.2∧True) (fun g=>g.1) (N,s0,0,O) prm ⟨c,h0,trivial⟩ ?_))));clear c
 rintro⟨P,x6,d,k⟩ af R8 h ⟨c,l,_⟩;rcases P with _|P;exact j3 c;replace c:o8 N σ B p0_ (P+1) x6 d=some Y:=c;rw [o8] at c;refine zu (zx (jv rfl rfl) (za (q8 (q9 rfl c (fun c=>?_) (fun c=>?_)))));refine qc ?_;obtain⟨t,b,c⟩:=zt c
 refine qz (γ:=σ×(List Frag)) (rs [3,7,12,30]) (fun g=>[]) (fun g=>[]++(g.2++A)) (fun g R=>t=Ex.go g.1∧I g.1 R g.2∧True) ?_ ?_;refine qd (zu (zg (vi d) ?_));obtain⟨E,b⟩:=ze b;refine ay (i:=d.toNat) rfl zg0 rfl (w9 (Z.mono h)) (zm rfl E.1) (zy E) fun ag Q=>?_
 refine ku rfl zf8 rfl Q fun F G=>?_
 refine zi (vi d) (zi F (qo (zg F (zx (jh rfl underlying46 rfl (w9 G)) (zg (vi 0) (za (qd (je (γ:=Nat×σ×Int×(List Frag)) (rs [5,7,17,30]) (fun g=>[(17,(vi g.2.2.1))]) (fun g=>[]++(g.2.2.2++A)) (fun g R=>nu N σ B p0_ d g.1 g.2.1 g.2.2.1=some t∧I g.2.1 R g.2.2.2∧True) (fun g=>g.1) (N,x6,0,k) prm ⟨b,l,trivial⟩ ?_))))))))
 clear b;rintro⟨j,u,a,m⟩ ah aj f ⟨b,n,_⟩;rcases j with _|j;exact j3 b;replace b:nu N σ B p0_ d (j+1) u a=some t:=b;rw [nu] at b;refine zu (zx (jv rfl rfl) (za (q8 (q9 rfl b (fun b=>?_) (fun b=>?_)))))
 refine qc (q8 (qd (zu (zg (vi a) ?_))));obtain⟨H,b⟩:=ze b;refine ay (i:=a.toNat) rfl zei rfl (w9 (G.mono f)) (zm rfl H.1) (zy H) fun al S=>?_;refine ku rfl zk2 rfl S fun am T=>?_;obtain rfl:=z1g.1 T;refine mh rfl zq3 fun y=>?_
 refine zi (vi a) (dm (i:=0) (vs:=[(vi ((ix (ix p0_.rows d) a).to)),(vi ((ix (ix p0_.rows d) a).out))]) zdr rfl rfl rfl rfl rfl rfl (j5 rfl (j5 rfl ny)) ?_)
 refine qo (zg yv (zg (vi d) (zg (vi a) (zx (wh (ps:=[(0,(vi d)),(1,(vi a))]) (v:=(.agg #[(vi d),(vi a)])) rfl (fun w=>by kernel_rfl)) (zx (u6 (i:=0) zpa zdr rfl rfl rfl rfl) ?_)))));obtain⟨z,U,b⟩:=zt b
 refine zni (vs:=[(.agg #[(vi d),(vi a)]),(.agg #[(vi ((ix (ix p0_.rows d) a).to)),(vi ((ix (ix p0_.rows d) a).out))])]) (J:=[box y [(vi ((ix (ix p0_.rows d) a).to)),(vi ((ix (ix p0_.rows d) a).out))] 45]) (Oc:=m) (A:=A) rfl rfl rfl rfl (hy (((d,a):(Int×Int)),(⟨(ix (ix p0_.rows d) a).to,(ix (ix p0_.rows d) a).out⟩:Edge)) u z.1 z.2 _ _ [(.agg #[(vi d),(vi a)]),(.agg #[(vi ((ix (ix p0_.rows d) a).to)),(vi ((ix (ix p0_.rows d) a).out))])] (h.trans f) rfl n U) fun an o p q=>?_
 refine zx (iy rfl) (za (q9 rfl b (fun b=>?_) (fun b=>?_)));refine ql ?_;replace c:=z06 b c;obtain rfl:=Option.some.inj c;refine yj (D:=[]) (J:=[box y [(vi ((ix (ix p0_.rows d) a).to)),(vi ((ix (ix p0_.rows d) a).out))] 45]) (O':=o) (rs:=[]) (vs:=[]) ((h.trans f).trans p) (List.Perm.refl _) rfl trivial ?_
 exact q;refine qc (zz ?_);obtain⟨V,b⟩:=ze b;refine zx (qx rfl rfl V) (zg (vi (a+1)) (za ?_));exact⟨dkt,p,jo,(j,z.2,a+1,o),Nat.lt_succ_self _,⟨rfl,trivial⟩,⟨[box y [(vi ((ix (ix p0_.rows d) a).to)),(vi ((ix (ix p0_.rows d) a).out))] 45],(List.Perm.refl _)⟩,b,q,trivial⟩
 refine jr ?_;exact⟨dkt,f,jo,(u,m),trivial,prm,(Option.some.inj b).symm,n,trivial⟩;rintro⟨W,K⟩ ao ap L ⟨rfl,M,_⟩;replace c:=z0t c;refine zz ?_;obtain⟨X,c⟩:=ze c;refine zx (qx rfl rfl X) (zg (vi (d+1)) (za ?_))
 exact⟨dkt,L,jo,(P,W,d+1,K),Nat.lt_succ_self _,⟨rfl,trivial⟩,prm,c,M,trivial⟩;refine jr ?_;show z8d _ _ _ _ _ .ret _ [] _ _;obtain rfl:=Option.some.inj c;refine yj (D:=[]) (J:=[]) (O':=k) (rs:=[]) (vs:=[]) h (List.Perm.refl _) rfl trivial ?_;exact l
theorem zyn:Enters prog 97:=enters_of func97 rfl (by kernel_rfl)
theorem zvv: ∀ w,∃ z,(zeroValue 50).run prog w= .ok z w∧z.cells=([.int .i64 0,.int .i64 0]:List Value).toArray:=fun w=>⟨(.agg #[(vi 0),(vi 0)]),by kernel_rfl,rfl⟩
theorem zhs: ∀ w,(sizeOf 50).run prog w= .ok 2 w:=fun w=>by kernel_rfl
theorem zu6: ∀ w,(isAgg 111).run prog w= .ok false w:=fun w=>by kernel_rfl
theorem zof: ∀ w,(isAgg 50).run prog w= .ok true w:=fun w=>by kernel_rfl
theorem zwi:ZeroOk prog 50 kA2tInti64 (((0:Int),(0:Int)):(Int×Int)) 16:=by
 obtain⟨i,zv,hi,a,c,d,f⟩:=z0j (P:=prog) (e:=50) (zv:=(.agg #[(vi 0),(vi 0)])) (k:=2) (b:=16) (by kernel_rfl);exact⟨i,zv,hi,a,c,d,fun R=>by subst f;exact⟨_,_,rfl,rfl,rfl⟩⟩
theorem zxk: ∀ w,(sizeOf 111).run prog w= .ok 1 w:=fun w=>by kernel_rfl
theorem zut:TyOk prog 50 kA2tInti64:=by
 obtain⟨i,hi,a⟩: ∃ i,prog.info? 50=some i∧i.size=2:=pz (by kernel_rfl);exact z2e underlying50 hi rfl a
theorem zx5:SlOk prog 111 50 kA2tInti64:=⟨underlying111,zut⟩
theorem z9z{N:Nat}{R:RH}{s:(List (Int×Int))}{a:Value}(b:VRep (tSl false kA2tInti64) R a s){r:(List (Int×Int))}(c:z18 N s=some r):CallP prog 74 #[a] R (fun v R'=>VRep (tSl true kA2tInti64) R' v r):=by
 refine qm (args:=[a]) func74 rfl rfl fun A=>?_;rw [z18] at c;refine zu (zi vs0 (qo (zg a (zg a (zx (jh rfl underlying111 rfl (w9 b)) (zg a (zx (jh rfl underlying111 rfl (w9 b)) ?_)))))));obtain⟨d,c⟩:=ze c
 refine zgx (v:=a) (lo:=(0:Int).toNat) (hi:=(↑s.length:Int).toNat) (mx:=(↑s.length:Int).toNat) rfl zx5 rfl (w9 b) (.inl ⟨rfl,rfl⟩) (.inr ⟨_,congrArg some (zm rfl (zgp d))⟩) (.inr ⟨_,congrArg some (zm rfl (zgp d))⟩) (z9x d) (z5i d) (Nat.le_refl _) (Nat.le_trans (z5i d) (zso (w9 b))) (X':=(cut s 0 (↑s.length:Int))) rfl fun f g e=>?_
 have h:VRep (tSl true kA2tInti64) R f (cut s 0 (↑s.length:Int)):=z1c g (e.trans (zn7 d).symm);refine zi f (za (ql ?_));obtain rfl:=Option.some.inj c;refine qf (D:=[]) (J:=[]) (rs:=[.tmp 2]) (vs:=[f]) (RH.le.refl _) rfl rfl ⟨rfl,trivial⟩ ?_;exact⟨rfl,h⟩
theorem zyr:Enters prog 74:=enters_of func74 rfl (by kernel_rfl)
theorem za2{N:Nat}{R:RH}{m:Mach}{t:Value}(u:VRep (uw false false) R t m){r:(List (Int×Int))}(d:z0f N m=some r):CallP prog 61 #[t] R (fun v R'=>VRep (tSl true kA2tInti64) R' v r):=by
 refine qm (args:=[t]) func61 rfl rfl fun A=>?_;rw [z0f] at d;refine zu (ah (T:=(uw false false)) rfl rfl rfl u fun v1 R3 w h5 h2=>?_);refine zi vs0 (qo (mh rfl zxb fun E=>?_));refine za (q8 (zu (zx (yz z3m rfl rfl h5 (u.mono w)) ?_)));obtain⟨y8,c9,d⟩:=zt d
 refine ja rfl zyt rfl (zcu (u.mono w) c9) fun aC aD F U=>?_;obtain⟨aE,rfl,V⟩:=U;refine za (qd (z7h ?_));obtain⟨W,Z,d⟩:=zt d
 refine zr4 (Oc:=[emp,box E [vs0] 111]) (Or:=A) _ (fun(s:List (Int×Int)) R O=> ∃ (e:Value) (f:Frag),(∃ J,O.Perm (J++[box E [e] 111,f]))∧ORep kA2tInti64 R f e s∧True) (fun(s:List (Int×Int)) (c:Code) R O=>False) _ _ rfl zyn (zbg (N:=N) V) (List.Perm.refl _) (by decide) (by rintro _ _ _ rfl;rfl) (by rintro s R2 R3 O2 n ⟨e,f,G,o,_⟩;exact⟨e,f,G,o.mono n,trivial⟩) (fun _ _ _ _ _ _ h=>h) (fun _ _ _ _ _ h=>h.elim) ⟨vs0,emp,⟨[],(pk 1 rfl (pk 0 rfl (List.Perm.refl _)))⟩,(z3n (T:=kA2tInti64)),trivial⟩ Z ?_ ?_ ?_
 rintro a aa aF aG au aH av aw ax H ⟨e,f,⟨_,G⟩,o,_⟩ p aI;have b:=p;clear p;(try dsimp only at b);refine zh5 (zpb G) ?_;obtain rfl:=H;refine zu (mh rfl zvv fun j=>?_);refine dm (i:=0) (vs:=[(vi a.1.1),(vi a.1.2)]) zhs rfl rfl rfl rfl rfl rfl (j5 rfl (j5 rfl ny)) ?_
 refine za (zz (mh rfl zq3 fun k=>?_));refine dm (i:=0) (vs:=[(vi a.2.to),(vi a.2.out)]) zdr rfl rfl rfl rfl rfl rfl (j5 rfl (j5 rfl ny)) ?_;refine za ?_
 refine⟨rfl,rfl,(RH.le.refl _),[box k [(vi a.2.to),(vi a.2.out)] 45,box j [(vi a.1.1),(vi a.1.2)] 50,box E [e] 111,f],List.Perm.refl _,fun aJ=>?_⟩;refine qd (q8 ?_);obtain⟨x,ab,b⟩:=zt b
 refine o5 3 [] [phX (.agg #[(vi a.2.to),(vi a.2.out)]),phX (z0x x),phX (.bool (decide (a.2.to=x.to∧a.2.out=x.out)))] mixed (by kernel_rfl) (pu ⟨zf,zf,zf,trivial⟩) ⟨?_,?_,?_,trivial⟩ fun aK g=>?_;intro l aL n ha hd;exact zh rfl rfl rfl (zl (u6 (i:=0) zpa zdr (ha 5 rfl) rfl rfl rfl))
 intro l aM n ha hd;exact zh rfl rfl rfl (yh (vs:=[]) zvf rfl (z5h  ab) (fun _ _ h=>h));rintro l aN n ha ⟨d0,d1,_⟩;exact zh rfl rfl rfl (zl (zjs zx9 (d0 rfl) (d1 rfl)));intro aQ ad aR ae aS af;obtain rfl:=Eq.symm ad;obtain rfl:=Eq.symm ae;obtain rfl:=Eq.symm af;refine za (q9 rfl b (fun b=>?_) (fun b=>?_))
 refine zz (zx (yn (i:=2) zu6 rfl rfl rfl) (zx (u6 (i:=1) zof zhs rfl rfl rfl rfl) (oz (T:=kA2tInti64) (X:=([((a.1.1,a.1.2):(Int×Int))]:List (Int×Int))) (ps:=[(0,(.agg #[(vi a.1.1),(vi a.1.2)]))]) (css:=[[(vi a.1.1),(vi a.1.2)]]) rfl underlying111 zwi rfl rfl (jq ⟨⟨_,_,rfl,rfl,rfl⟩,trivial⟩) rfl rfl (by decide) fun ag aT y ai=>?_)))
 refine p8 (i:=0) rfl ai fun aj q ak=>?_;have al:VRep (tSl true kA2tInti64) aj ag ([((a.1.1,a.1.2):(Int×Int))]:List (Int×Int)):=(z1c ak y);obtain⟨I,b⟩:=ze b
 refine z3i (i:=3) (X:=aa) (Y:=([((a.1.1,a.1.2):(Int×Int))]:List (Int×Int))) rfl underlying111 zwi rfl rfl rfl (o.mono (g.trans q)) (w9 (Sub.v (B:=(tSl false kA2tInti64)) (jm Sub.refl (fun _=>rfl)) al)) I.1 I.2 fun z K C=>?_
 refine dm (i:=2) (vs:=[z]) zxk rfl rfl (z16 C) rfl rfl rfl (j5 (z2m C) ny) ?_;refine za ?_;obtain⟨rfl,rfl⟩:=Prod.mk.inj (Option.some.inj b)
 exact⟨rfl,(g.trans q),[box k [(vi a.2.to),(vi a.2.out)] 45,box j [(vi a.1.1),(vi a.1.2)] 50,box E [z] 111,K],List.Perm.refl _,rfl,⟨z,K,⟨[box k [(vi a.2.to),(vi a.2.out)] 45,box j [(vi a.1.1),(vi a.1.2)] 50],(List.Perm.refl _)⟩,C,trivial⟩⟩;refine qc ?_
 obtain⟨rfl,rfl⟩:=Prod.mk.inj (Option.some.inj b)
 exact⟨rfl,g,[box k [(vi a.2.to),(vi a.2.out)] 45,box j [(vi a.1.1),(vi a.1.2)] 50,box E [e] 111,f],List.Perm.refl _,rfl,⟨e,f,⟨[box k [(vi a.2.to),(vi a.2.out)] 45,box j [(vi a.1.1),(vi a.1.2)] 50],(List.Perm.refl _)⟩,(o.mono g),trivial⟩⟩
 rintro aU aV ay L ⟨M,aW,⟨_,G⟩,am,_⟩;refine⟨_,_,G,?_⟩;refine zu (zx (yn (i:=0) zu6 rfl rfl rfl) (p8 (i:=1) rfl am fun an P ao=>?_));have ap:VRep (tSl false kA2tInti64) an M W:=(z7j ao);obtain⟨aX,aq,d⟩:=zt d;refine ja rfl zyr rfl (z9z ap aq) fun Q aY S ar=>?_
 refine zi Q (za (ql ?_));obtain rfl:=Option.some.inj d;refine qf (D:=[]) (J:=[box E [M] 111]) (rs:=[.tmp 2]) (vs:=[Q]) ((((w.trans F).trans L).trans P).trans S) rfl rfl ⟨rfl,trivial⟩ ?_;exact⟨rfl,ar⟩;exact fun _ _ _ _ _ h=>h.elim
theorem zxv:Enters prog 61:=enters_of func61 rfl (by kernel_rfl)
theorem zat{N:Nat}{R:RH}{m:Mach}{e:Value}(d:VRep (uw false false) R e m){r:Bool×Int}(a:z0l N m=some r):CallP prog 44 #[e] R (fun v R'=>v= .tuple #[(.bool r.1),(vi r.2)]):=by
 refine qm (args:=[e]) func44 rfl rfl fun A=>?_;rw [z0l] at a;refine zu (ah (T:=(uw false false)) rfl rfl rfl d fun s t c k u=>?_);refine zi (.bool false) (zi (vi 0) (za (q8 (zu (zx (yz z3m rfl rfl k (d.mono c)) ?_)))));obtain⟨f,l,a⟩:=zt a
 refine ja rfl zwv rfl (z88 (d.mono c) l) fun w n b o=>?_;obtain rfl:=o;refine zi (vi f) (qo (zg (vi f) (zx (yt rfl rfl) (za (q9 rfl a (fun a=>?_) (fun a=>?_))))));refine zu (zg (vi f) (zi (.bool false) (zi (vi f) (za (ql ?_)))));obtain rfl:=Option.some.inj a
 refine qf (D:=[]) (J:=[]) (rs:=[.tmp 2,.tmp 3]) (vs:=[(.bool false),(vi f)]) (c.trans b) rfl rfl ⟨rfl,rfl,trivial⟩ ?_;exact⟨rfl,rfl⟩;refine qc (zu (zx (yz z3m rfl rfl (k.mono b) (d.mono (c.trans b))) ?_));obtain⟨g,i,a⟩:=zt a
 refine ja rfl zxv rfl (za2 (d.mono (c.trans b)) i) fun p q h j=>?_;refine zx (jh rfl underlying111 rfl (w9 j)) (zx (pg rfl rfl) (zi (.bool (decide ((↑g.length:Int)=0))) (zi (vi 0) (za (ql ?_)))));obtain rfl:=Option.some.inj a
 refine qf (D:=[]) (J:=[]) (rs:=[.tmp 2,.tmp 3]) (vs:=[(.bool (decide ((↑g.length:Int)=0))),(vi 0)]) ((c.trans b).trans h) rfl rfl ⟨rfl,rfl,trivial⟩ ?_;exact⟨rfl,rfl⟩
theorem zxt:Enters prog 44:=enters_of func44 rfl (by kernel_rfl)
theorem z1i{N:Nat}{R:RH}{m:Mach}{e:Value}(f:VRep (uw false false) R e m){r:Int}(a:z07 N m=some r):CallP prog 17 #[e] R (fun v R'=>v=(vi r)):=by
 refine qm (args:=[e]) func17 rfl rfl fun A=>?_;rw [z07] at a;refine zu (ah (T:=(uw false false)) rfl rfl rfl f fun s t c j u=>?_);refine zi (vi 0) (qo (zx (yz z3m rfl rfl j (f.mono c)) ?_));obtain⟨b,k,a⟩:=zt a;refine ja rfl zxt rfl (zat (f.mono c) k) fun w l d n=>?_
 obtain rfl:=n
 refine zg (.tuple #[(.bool b.1),(vi b.2)]) (zx (qh rfl rfl) (zx (qh rfl rfl) (zi (.bool b.1) (zi (vi b.2) (za (q8 (zu (jd (v:=(vi b.2)) rfl (z8 rfl) (jd rfl (pg rfl rfl) (jd (v:=(.bool (decide (b.2=0)))) rfl (z8 rfl) (qw rfl rfl rfl rfl (fun i=>qi (v:=(.bool b.1)) (z8 rfl)) fun o g=>?_)))))))))))
 refine qw rfl rfl rfl rfl (fun i=>qi (iy (g.1 (zq rfl i)))) fun p h=>?_;refine jd rfl (xk rfl (fun q=>(h.1 (zq rfl q))) rfl) (za (q9 rfl a (fun a=>?_) (fun a=>?_)));refine zu (zi (vi 9) (za (ql ?_)));obtain rfl:=Option.some.inj a
 refine qf (D:=[]) (J:=[]) (rs:=[.tmp 2]) (vs:=[(vi 9)]) (c.trans d) rfl rfl ⟨rfl,trivial⟩ ?_;exact⟨rfl,rfl⟩;refine qc (zu (zg (vi b.2) (zi (vi b.2) (za (ql ?_)))));obtain rfl:=Option.some.inj a;refine qf (D:=[]) (J:=[]) (rs:=[.tmp 2]) (vs:=[(vi b.2)]) (c.trans d) rfl rfl ⟨rfl,trivial⟩ ?_
 exact⟨rfl,rfl⟩
theorem znx:Enters prog 17:=enters_of func17 rfl (by kernel_rfl)
theorem zvp{a:Bool}:ZeroOk prog 86 (kg a) (⟨(((0:Int),(0:Int)):(Int×Int)),([]:List Int)⟩:Sc) 40:=by
 obtain⟨i,zv,hi,c,d,f,g⟩:=z0j (P:=prog) (e:=86) (zv:=(.agg #[(vi 0),(vi 0),vs0])) (k:=3) (b:=40) (by kernel_rfl);exact⟨i,zv,hi,c,d,f,fun R=>by subst g;exact⟨_,_,rfl,⟨_,_,rfl,rfl,rfl⟩,(jy rfl z0c)⟩⟩
theorem ko9:KOk prog 9 fw:=zrw underlying9
theorem zw9{a:Bool}:TyOk prog 86 (kg a):=by
 obtain⟨i,hi,b⟩: ∃ i,prog.info? 86=some i∧i.size=3:=pz (by kernel_rfl);exact z2e underlying86 hi rfl b
theorem zza{a:Bool}:SlOk prog 87 86 (kg a):=⟨underlying87,zw9⟩
theorem zye: ∀ w,∃ z,(zeroValue 86).run prog w= .ok z w∧z.cells=([.int .i64 0,.int .i64 0,.slice none 0 0]:List Value).toArray:=fun w=>⟨(.agg #[(vi 0),(vi 0),vs0]),by kernel_rfl,rfl⟩
theorem zy8: ∀ w,(sizeOf 86).run prog w= .ok 3 w:=fun w=>by kernel_rfl
theorem zr1:FieldOk prog 86 0 0:=by
 obtain⟨i,hi,a⟩: ∃ i,prog.info? 50=some i∧i.size=2:=pz (by kernel_rfl);exact lv underlying86 rfl rfl hi (by rw [a];rfl)
theorem zqs:FieldOk prog 86 1 2:=by
 obtain⟨i,hi,a⟩: ∃ i,prog.info? 30=some i∧i.size=1:=pz (by kernel_rfl);exact lv underlying86 rfl rfl hi (by rw [a];rfl)
theorem zog: ∀ w,(isAgg 30).run prog w= .ok false w:=fun w=>by kernel_rfl
theorem rz{N:Nat}{R:RH}{s:(List Int)}{a:Value}(b:VRep (tSl false (qa .i64)) R a s){r:(List Int)}(c:tu N s=some r):CallP prog 45 #[a] R (fun v R'=>VRep (tSl true (qa .i64)) R' v r):=by
 refine qm (args:=[a]) func45 rfl rfl fun A=>?_;rw [tu] at c;refine zu (zi vs0 (qo (zg a (zg a (zx (jh rfl underlying30 rfl (w9 b)) (zg a (zx (jh rfl underlying30 rfl (w9 b)) ?_)))))));obtain⟨d,c⟩:=ze c
 refine zgx (v:=a) (lo:=(0:Int).toNat) (hi:=(↑s.length:Int).toNat) (mx:=(↑s.length:Int).toNat) rfl z5f rfl (w9 b) (.inl ⟨rfl,rfl⟩) (.inr ⟨_,congrArg some (zm rfl (zgp d))⟩) (.inr ⟨_,congrArg some (zm rfl (zgp d))⟩) (z9x d) (z5i d) (Nat.le_refl _) (Nat.le_trans (z5i d) (zso (w9 b))) (X':=(cut s 0 (↑s.length:Int))) rfl fun f g e=>?_
 have h:VRep (tSl true (qa .i64)) R f (cut s 0 (↑s.length:Int)):=z1c g (e.trans (zn7 d).symm);refine zi f (za (ql ?_));obtain rfl:=Option.some.inj c;refine qf (D:=[]) (J:=[]) (rs:=[.tmp 2]) (vs:=[f]) (RH.le.refl _) rfl rfl ⟨rfl,trivial⟩ ?_;exact⟨rfl,h⟩
theorem zkf:Enters prog 45:=enters_of func45 rfl (by kernel_rfl)
theorem mz4: ∀ w,(zeroValue 4).run prog w= .ok (Value.bool false) w:=fun w=>by kernel_rfl
theorem z9j{N:Nat}{R:RH}{inputs:Int}{from_:(Int×Int)}{key:(Int×Int)→Option (List UInt8)}{x:Value}(ab:FOk1 prog R x kA2tInti64 zsw key){is:(Int×Int)→Option Bool}{Q:Value}(aH:FOk1 prog R Q kA2tInti64 fe is){next:(Int×Int)→Int→Option (Int×Int)}{t:Value}(aj:FOk2 prog R t kA2tInti64 (qa .i64) kA2tInti64 next){r:(List Int)×Int}(y:z03 N inputs from_ key is next=some r):CallP prog 20 #[(vi inputs),(ak from_),x,Q,t] R (fun v R'=> ∃ u0,v= .tuple #[u0,(vi r.2)]∧VRep (tSl true (qa .i64)) R' u0 r.1):=by
 refine qm (args:=[(vi inputs),(ak from_),x,Q,t]) func20 rfl rfl fun A=>?_;rw [z03] at y;refine zu (z6x (T:=kA2tInti64) rfl rfl (bv.2 rfl) fun v1 R3 Z h2=>?_);refine zi vs0 (zi (vi 0) (qo (ku rfl zut rfl h2 fun v5 h6=>?_)));obtain rfl:=bv.1 h6
 refine zx (wh (ps:=[(0,(ak from_))]) (v:=(.agg #[(vi from_.1),(vi from_.2),vs0])) rfl (fun w=>by kernel_rfl)) ?_;let G2:=([(⟨((from_.1,from_.2):(Int×Int)),[]⟩:Sc)]:List Sc)
 refine oz (T:=(kg false)) (X:=G2) (ps:=[(0,(.agg #[(vi from_.1),(vi from_.2),vs0]))]) (css:=[[(vi from_.1),(vi from_.2),vs0]]) rfl underlying87 zvp rfl rfl (jq ⟨⟨_,_,rfl,⟨_,_,rfl,rfl,rfl⟩,(jy rfl z0c)⟩,trivial⟩) rfl rfl (by decide) fun v7 f8 bU bn=>?_
 refine zi v7 (qo (zbh (ke:=fw) (ve:=Value.bool) rfl fun F cv bo=>?_));refine zg x (ku rfl zut rfl h2 fun cw bp=>?_);obtain rfl:=bv.1 bp;obtain⟨aI,bq,y⟩:=zt y;refine z0g rfl rfl rfl ((ab.mono Z) _ (RH.le.refl _) from_ _ _ (bv.2 rfl) bq) fun cx cy z br=>?_;obtain rfl:=z3r.1 br
 refine z8j (i:=0) (k:=aI) (u:=true) underlying88 ko9 rfl (bo.mono z) rfl rfl rfl fun bs bt=>?_;refine zg F (zi F (za ?_));obtain⟨aw,d,y⟩:=zt y;refine qz (γ:=Unit) (rs [10,13,14,16,17,21,29,83]) (fun g=>[]) (fun g=>[]++A) (fun g R=>aw=Ex.go g∧True) ?_ ?_
 refine zu (zi (vi 0) (za (qd (je (γ:=Nat×(List Sc)×Int×(List ((List UInt8)×Bool))×Value×Frag×Frag) (rs [10,13,14,16,17,21,29,83]) (fun g=>[(12,g.2.2.2.2.1),(14,(vi g.2.2.1))]) (fun g=>[g.2.2.2.2.2.2,g.2.2.2.2.2.1]++A) (fun g R=>xn N inputs key is next g.1 g.2.1 g.2.2.1 g.2.2.2.1=some aw∧ORep (kg false) R g.2.2.2.2.2.1 g.2.2.2.2.1 g.2.1∧MRep fw Value.bool R g.2.2.2.2.2.2 F g.2.2.2.1∧True) (fun g=>g.1) (N,G2,0,(z2c ([]:List ((List UInt8)×Bool)) aI true),v7,f8,bs) prm ⟨d,(bn.mono z),bt,trivial⟩ ?_))))
 clear d;rintro⟨al,n,ac,aJ,aK,O,aL⟩ bV cz K ⟨d,am,bu,_⟩;rcases al with _|al;exact j3 d;replace d:xn N inputs key is next (al+1) n ac aJ=some aw:=d;rw [xn] at d
 refine q8 (zu (jd (v:=aK) rfl (z8 rfl) (jd rfl (z10 rfl underlying87 rfl am) (jd rfl (l5 rfl rfl) (jd (v:=(.bool (decide (0<(↑n.length:Int))))) rfl (z8 rfl) (qw rfl rfl rfl rfl (fun hB=>qi (v:=(vi ac)) (z8 rfl)) fun cA bw=>?_))))))
 refine qw rfl rfl rfl rfl (fun hB=>qi (z2h (bw.1 (zq rfl hB)) rfl)) fun cB bx=>?_;refine jd rfl (xk rfl (fun hb=>(bx.1 (zq rfl hb))) rfl) (za (q9 rfl d (fun d=>?_) (fun d=>?_)));refine qc (q8 (qd (zu (zi vs0 (za ?_)))));obtain⟨ax,f,d⟩:=zt d
 refine qz (γ:=(List Sc×List ((List UInt8)×Bool))×Value×Frag×Frag) (rs [10,12,15,16,17,21,38,82]) (fun g=>[(15,g.2.1)]) (fun g=>[g.2.2.2,g.2.2.1]++A) (fun g R=>ax=Ex.go g.1∧ORep (kg false) R g.2.2.1 g.2.1 g.1.1∧MRep fw Value.bool R g.2.2.2 F g.1.2∧True) ?_ ?_
 refine zu (zg aK (zx (z10 rfl underlying87 rfl am) (zg (vi 0) (za (qd (z7h ?_))))))
 refine je (γ:=Nat×(List Sc)×Int×(List ((List UInt8)×Bool))×Value×Frag×Frag) (rs [10,12,15,16,17,21,40,82]) (fun g=>[(15,g.2.2.2.2.1),(40,(vi g.2.2.1))]) (fun g=>[g.2.2.2.2.2.2,O,g.2.2.2.2.2.1]++A) (fun g R=>xu N inputs key is next n g.1 g.2.1 g.2.2.1 g.2.2.2.1=some ax∧ORep (kg false) R g.2.2.2.2.2.1 g.2.2.2.2.1 g.2.1∧MRep fw Value.bool R g.2.2.2.2.2.2 F g.2.2.2.1∧True) (fun g=>g.1) (N,[],0,aJ,vs0,emp,aL) ⟨[],(pk 1 rfl (pk 1 rfl (pk 0 rfl (List.Perm.refl _))))⟩ ⟨f,(z3n (T:=(kg false))),bu,trivial⟩ ?_
 clear f;rintro⟨an,ay,m,az,aM,ad,aA⟩ bX cD C ⟨f,aN,aO,_⟩;rcases an with _|an;exact j3 f;replace f:xu N inputs key is next n (an+1) ay m az=some ax:=f;rw [xu] at f;refine zu (zx (jv rfl rfl) (za (q8 (q9 rfl f (fun f=>?_) (fun f=>?_)))));refine qc ?_
 obtain⟨aB,c,f⟩:=zt f;refine qz (γ:=(List ((List UInt8)×Bool)×List Sc)×Frag×Value×Frag) (rs [10,12,15,16,17,21,42,81]) (fun g=>[(15,g.2.2.1)]) (fun g=>[g.2.1,g.2.2.2,O]++A) (fun g R=>aB=Ex.go g.1∧MRep fw Value.bool R g.2.1 F g.1.1∧ORep (kg false) R g.2.2.2 g.2.2.1 g.1.2∧True) ?_ ?_
 refine qd (zu ?_);obtain⟨aC,c⟩:=ze c;refine z3g (i:=m.toNat) rfl zza rfl (am.mono C) (zm rfl aC.1) (zy aC) fun cE bz=>?_;refine z7q (i:=m.toNat) (j:=1) rfl zw9 (am.mono C) rfl rfl bz (zy aC) fun cF bA=>?_;refine mh rfl zye fun ae=>?_;obtain⟨L,rfl,aD⟩:=z7k bA
 refine dm (i:=0) (vs:=[(vi (((ix n m).fC).1)),(vi (((ix n m).fC).2)),L]) zy8 rfl rfl rfl rfl rfl rfl (j5 rfl (j5 rfl (j5 (zb8 aD) ny))) ?_;refine za (q8 (zu (zg Q (zx (pq zr1 rfl) (zx (u6 (i:=0) zof zhs rfl rfl rfl rfl) ?_)))));obtain⟨cG,aP,c⟩:=zt c
 refine z0g rfl rfl rfl ((aH.mono (((Z.trans z).trans K).trans C)) _ (RH.le.refl _) ((((ix n m).fC).1,((ix n m).fC).2):(Int×Int)) _ _ (bv.2 rfl) aP) fun bY bZ p aQ=>?_;obtain rfl:=su.1 aQ;refine za (q9 rfl c (fun c=>?_) (fun c=>?_))
 refine zu (zx (pq zqs rfl) (zx (yn (i:=0) zog rfl rfl rfl) ?_));obtain⟨b0,aR,c⟩:=zt c;refine ja rfl zkf rfl (rz (aD.mono p) aR) fun af b1 aE aS=>?_;refine zi af (zi (vi 0) (za (ql ?_)));replace f:=z06 c f;replace d:=z06 f d;replace y:=z06 d y
 obtain rfl:=Option.some.inj y;refine qf (D:=[]) (J:=[box ae [(vi (((ix n m).fC).1)),(vi (((ix n m).fC).2)),L] 86,aA,O,ad]) (rs:=[.tmp 10,.tmp 11]) (vs:=[af,(vi 0)]) (((((Z.trans z).trans K).trans C).trans p).trans aE) rfl rfl ⟨rfl,rfl,trivial⟩ ?_;exact⟨rfl,⟨af,rfl,aS⟩⟩
 refine qc (zu (zg (vi inputs) (zg (vi 0) (za (qd (je (γ:=Nat×Int×(List ((List UInt8)×Bool))×(List Sc)×Frag×Value×Frag) (rs [15,16,18,21,52,81]) (fun g=>[(15,g.2.2.2.2.2.1),(52,(vi g.2.1))]) (fun g=>[g.2.2.2.2.1,g.2.2.2.2.2.2,box ae [(vi (((ix n m).fC).1)),(vi (((ix n m).fC).2)),L] 86,O]++A) (fun g R=>xz N inputs key next n m g.1 g.2.1 g.2.2.1 g.2.2.2.1=some aB∧MRep fw Value.bool R g.2.2.2.2.1 F g.2.2.1∧ORep (kg false) R g.2.2.2.2.2.2 g.2.2.2.2.2.1 g.2.2.2.1∧True) (fun g=>g.1) (N,0,az,ay,aA,aM,ad) ⟨[],(pk 1 rfl (pk 2 rfl (pk 0 rfl (pk 0 rfl (List.Perm.refl _)))))⟩ ⟨c,(aO.mono p),(aN.mono p),trivial⟩ ?_))))))
 clear c;rintro⟨S,b,U,M,ao,ag,ap⟩ b2 b3 I ⟨c,V,ah,_⟩;rcases S with _|S;exact j3 c;replace c:xz N inputs key next n m (S+1) b U M=some aB:=c;rw [xz] at c;refine zu (zx (jv rfl rfl) (za (q8 (q9 rfl c (fun c=>?_) (fun c=>?_)))))
 refine qc ?_;obtain⟨W,s,c⟩:=zt c
 refine qz (γ:=(List ((List UInt8)×Bool)×List Sc)×Frag×Value×Frag) (rs [15,16,18,21,54,80]) (fun g=>[(15,g.2.2.1)]) (fun g=>[g.2.1,g.2.2.2,box ae [(vi (((ix n m).fC).1)),(vi (((ix n m).fC).2)),L] 86,O]++A) (fun g R=>W=g.1∧MRep fw Value.bool R g.2.1 F g.1.1∧ORep (kg false) R g.2.2.2 g.2.2.1 g.1.2∧True) ?_ ?_
 refine qd (zu (zg (vi b) (zi (vi b) (qo (zg t (zx (pq zr1 rfl) (zx (u6 (i:=2) zof zhs rfl rfl rfl rfl) (zg (vi b) ?_))))))));obtain⟨a,aT,s⟩:=zt s
 refine z0g rfl rfl rfl ((aj.mono (((((Z.trans z).trans K).trans C).trans p).trans I)) _ (RH.le.refl _) ((((ix n m).fC).1,((ix n m).fC).2):(Int×Int)) b _ _ _ (bv.2 rfl) (qb.2 rfl) aT) fun b4 b5 o aU=>?_;obtain rfl:=bv.1 aU;refine mh rfl zvv fun aq=>?_
 refine dm (i:=0) (vs:=[(vi a.1),(vi a.2)]) zhs rfl rfl rfl rfl rfl rfl (j5 rfl (j5 rfl ny)) ?_;refine qo (zg x (zx (u6 (i:=0) zof zhs rfl rfl rfl rfl) ?_));obtain⟨H,aV,s⟩:=zt s
 refine z0g rfl rfl rfl ((ab.mono ((((((Z.trans z).trans K).trans C).trans p).trans I).trans o)) _ (RH.le.refl _) ((a.1,a.2):(Int×Int)) _ _ (bv.2 rfl) aV) fun b6 b7 q aW=>?_;obtain rfl:=z3r.1 aW
 refine zi (fw H) (qo (zg F (zg (fw H) (zx (zbj (k:=H) underlying88 ko9 mz4 (zi4 (i:=1) rfl (V.mono (o.trans q))) rfl rfl) (zx (iy rfl) (za (q9 rfl s (fun s=>?_) (fun s=>?_))))))))
 refine zu (zg F (zg (fw H) (z95 (i:=1) (k:=H) (u:=true) underlying88 ko9 rfl (V.mono (o.trans q)) rfl rfl rfl fun aX aY=>?_)));refine za ?_;obtain⟨E,aZ,s⟩:=zt s;obtain⟨ar,s⟩:=ze s;let G1:=([(⟨((a.1,a.2):(Int×Int)),(E++([b]:List Int))⟩:Sc)]:List Sc)
 refine o5 10 [] [phX ag,phX (.agg #[(vi a.1),(vi a.2)]),phX (.pointer (some ⟨ae,2,none⟩)),phX L,phR (tSl true (qa .i64)) E,phX (vi b),phR (tSl true (qa .i64)) ([b]:List Int),phR (tSl false (qa .i64)) (E++([b]:List Int)),phR (kg false) (⟨((a.1,a.2):(Int×Int)),(E++([b]:List Int))⟩:Sc),phR (tSl true (kg false)) G1] mixed (by kernel_rfl) (pu ⟨zf,zf,zf,zf,z6l,zf,z6l,z6l,z6l,z6l,trivial⟩) ⟨?_,?_,?_,?_,?_,?_,?_,?_,?_,?_,trivial⟩ fun b8 P=>?_
 intro l cH G ha hd;exact zh rfl rfl rfl (zl (z8 (ha 15 rfl)));intro l cI G ha hd;exact zh rfl rfl rfl (zl (u6 (i:=0) zof zhs (ha 19 rfl) rfl rfl rfl));intro l cJ G ha hd;exact zh rfl rfl rfl (zl (pq zqs (ha 17 rfl)));rintro l cK G ha ⟨d0,_⟩
 exact zh rfl rfl rfl (zl (yn (i:=3) zog (d0 rfl) rfl rfl));rintro l cL G ha ⟨d0,_⟩;have bB:l 72=L:=d0 rfl;exact zh rfl rfl rfl (yh (vs:=[L]) zkf (by simp only [List.map,ev,bB]<;>rfl) (rz ((aD.mono (((p.trans I).trans o).trans q)).mono G) aZ) (fun _ _ h=>h));intro l cM G ha hd
 exact zh rfl rfl rfl (zl (z8 (ha 18 rfl)));rintro l cN G ha ⟨d0,_⟩;have bC:l 74=(vi b):=d0 rfl;exact zh rfl rfl rfl (z1m (T:=(qa .i64)) (X:=([b]:List Int)) (ps:=[(0,(vi b))]) (css:=[[(vi b)]]) underlying30 zo3 (by simp only [List.map,ev,bC]<;>rfl) rfl (jq ⟨rfl,trivial⟩) rfl rfl (by decide))
 rintro l cO G ha ⟨d0,d1,d2,_⟩;have ad:=d1 rfl;exact zh rfl rfl rfl (zt5 (X:=E) (Y:=([b]:List Int)) underlying30 zo3 rfl rfl (d0 rfl) (w9 (Sub.v (B:=(tSl false (qa .i64))) (jm Sub.refl (fun _=>rfl)) ad)) ar.1 ar.2);rintro l bE G ha ⟨d0,d1,_⟩;have bF:l 70=(.agg #[(vi a.1),(vi a.2)]):=d0 rfl
 have a0:phR (tSl false (qa .i64)) (E++([b]:List Int)) (l 76) bE:=d1 rfl
 exact zh rfl rfl rfl (zl1 (z2z [(0,(.agg #[(vi a.1),(vi a.2)])),(1,(.agg #[(l 76)]))] (ps:=[(0,(.agg #[(vi a.1),(vi a.2)])),(1,(l 76))]) (v:=(.agg #[(vi a.1),(vi a.2),(l 76)])) (by simp only [List.map,ev,bF]<;>rfl) (by simp only [List.map_cons,List.map_nil,z1e a0]<;>rfl) (fun w=>by kernel_rfl)) (⟨_,⟨_,_,rfl,⟨_,_,rfl,rfl,rfl⟩,(jy rfl a0)⟩,rfl⟩:VRep (kg false) _ _ (⟨((a.1,a.2):(Int×Int)),(E++([b]:List Int))⟩:Sc)))
 rintro l cP G ha ⟨d0,_⟩;have bG:=d0 rfl;exact zh rfl rfl rfl (z1m (T:=(kg false)) (X:=G1) (ps:=[(0,(l 77))]) (css:=[(l 77).cells.toList]) underlying87 zvp rfl (by simp) (jq ⟨(let⟨_,hr,e⟩:=bG;by rw [e,zbx hr];exact hr),trivial⟩) rfl rfl (by decide))
 intro ca a1 cb a2 cc a3 cd a4 ce cf cg a5 ch ci cj ck cl cm cn a6;obtain rfl:=Eq.symm a1;obtain rfl:=Eq.symm a2;obtain rfl:=Eq.symm a3;obtain rfl:=Eq.symm a4;obtain rfl:=Eq.symm a5;obtain⟨au,s⟩:=ze s
 refine z3i (i:=2) (X:=M) (Y:=G1) rfl underlying87 zvp rfl rfl rfl (ah.mono ((o.trans q).trans P)) (w9 (Sub.v (B:=(tSl false (kg false))) (jm Sub.refl (fun _=>rfl)) a6)) au.1 au.2 fun av a7 a8=>?_;refine zi av (za ?_)
 exact⟨dkt,((o.trans q).trans P),jo,(((z2c U H true),(M++G1)),aX,av,a7),⟨rfl,trivial⟩,⟨[box aq [(vi a.1),(vi a.2)] 50],(List.Perm.refl _)⟩,(Option.some.inj s).symm,(aY.mono P),a8,trivial⟩;refine qc ?_
 exact⟨dkt,(o.trans q),jo,((U,M),ao,ag,ap),⟨rfl,trivial⟩,⟨[box aq [(vi a.1),(vi a.2)] 50],(List.Perm.refl _)⟩,(Option.some.inj s).symm,(V.mono (o.trans q)),(ah.mono (o.trans q)),trivial⟩;rintro⟨W,a9,ba,bb⟩ co cp aF ⟨rfl,bc,be,_⟩;refine zz ?_;obtain⟨bf,c⟩:=ze c
 refine zx (qx rfl rfl bf) (zg (vi (b+1)) (za ?_));exact⟨dkt,aF,jo,(S,b+1,W.1,W.2,a9,ba,bb),Nat.lt_succ_self _,⟨rfl,rfl,trivial⟩,prm,c,bc,be,trivial⟩;refine jr ?_
 exact⟨dkt,(p.trans I),jo,((U,M),ao,ag,ap),⟨rfl,trivial⟩,⟨[box ae [(vi (((ix n m).fC).1)),(vi (((ix n m).fC).2)),L] 86],(pk 2 rfl (pk 0 rfl (pk 0 rfl (pk 0 rfl (List.Perm.refl _)))))⟩,(Option.some.inj c).symm,V,ah,trivial⟩;rintro⟨bg,bH,bI,bJ⟩ cq cQ bh ⟨rfl,bK,bL,_⟩;replace f:=z0t f;refine zz ?_
 obtain⟨bi,f⟩:=ze f;refine zx (qx rfl rfl bi) (zg (vi (m+1)) (za ?_));exact⟨dkt,bh,jo,(an,bg.2,m+1,bg.1,bI,bJ,bH),Nat.lt_succ_self _,⟨rfl,rfl,trivial⟩,⟨[],(pk 0 rfl (pk 1 rfl (pk 0 rfl (List.Perm.refl _))))⟩,f,bL,bK,trivial⟩;refine jr ?_
 exact⟨dkt,C,jo,((ay,az),aM,ad,aA),⟨rfl,trivial⟩,⟨[O],(pk 1 rfl (pk 0 rfl (pk 0 rfl (List.Perm.refl _))))⟩,(Option.some.inj f).symm,aN,aO,trivial⟩;rintro⟨bj,aG,bM,bN⟩ cr cR bk ⟨rfl,bO,bP,_⟩;replace d:=z0t d;refine zz (zg aG (zi aG (za (zz (zg (vi ac) ?_)))));obtain⟨bl,d⟩:=ze d
 refine zx (qx rfl rfl bl) (zi (vi (ac+1)) (za ?_));exact⟨dkt,bk,jo,(al,bj.1,ac+1,bj.2,aG,bM,bN),Nat.lt_succ_self _,⟨rfl,rfl,trivial⟩,prm,d,bO,bP,trivial⟩;refine jr ?_;exact⟨dkt,K,jo,(),trivial,⟨[aL,O],(List.Perm.refl _)⟩,(Option.some.inj d).symm,trivial⟩;rintro cS cs cT bm ⟨rfl,_⟩;replace y:=z0t y
 refine zu (zi vs0 (zi (vi 7) (za (ql ?_))));obtain rfl:=Option.some.inj y;refine qf (D:=[]) (J:=[]) (rs:=[.tmp 10,.tmp 11]) (vs:=[vs0,(vi 7)]) ((Z.trans z).trans bm) rfl rfl ⟨rfl,rfl,trivial⟩ ?_;exact⟨rfl,⟨vs0,rfl,z0c⟩⟩
theorem zz2:Enters prog 20:=enters_of func20 rfl (by kernel_rfl)
theorem znu:ArrOk prog 50 2 1:=zju (e:=3) underlying50 (fun w=>by kernel_rfl)
theorem zo5:ZeroOk prog 5 (qa .u8) (0:Int) 1:=by
 obtain⟨i,zv,hi,a,c,d,f⟩:=z0j (P:=prog) (e:=5) (zv:=(.int .u8 0)) (k:=1) (b:=1) (by kernel_rfl);exact⟨i,zv,hi,a,c,d,fun R=>by subst f;exact rfl⟩
theorem zdo{N:Nat}{R:RH}{x:(Int×Int)}{r:(List UInt8)}(b:z4r N x=some r):CallP prog 18 #[(ak x)] R (fun v R'=>v=(fw r)):=by
 refine qm (args:=[(ak x)]) func18 rfl rfl fun A=>?_;rw [z4r] at b;refine zu (z6x (T:=kA2tInti64) rfl rfl (bv.2 rfl) fun s t d m=>?_);refine zi (fw []) (qo (z92 (i:=0) rfl znu z7d rfl m rfl (by decide) fun u n=>?_));refine ku rfl ty3 rfl n fun w o=>?_;obtain rfl:=qb.1 o
 refine zx (z0e underlying3 underlying5 rfl) (z92 (i:=1) rfl znu z7e rfl m rfl (by decide) fun y e=>?_);refine ku rfl ty3 rfl e fun p f=>?_;obtain rfl:=qb.1 f;refine zx (z0e underlying3 underlying5 rfl) ?_;let G1:=([IntKind.u8.wrap x.1,IntKind.u8.wrap x.2]:List Int)
 refine oz (T:=(qa .u8)) (X:=G1) (ps:=[(0,(.int .u8 (IntKind.u8.wrap x.1))),(1,(.int .u8 (IntKind.u8.wrap x.2)))]) (css:=[[(.int .u8 (IntKind.u8.wrap x.1))],[(.int .u8 (IntKind.u8.wrap x.2))]]) rfl underlying22 zo5 rfl rfl (jq ⟨rfl,rfl,trivial⟩) rfl rfl (by decide) fun g q a h=>?_;refine p8 (i:=0) rfl h fun j c k=>?_
 have l:VRep (tSl true (qa .u8)) j g G1:=(z1c k a);refine zx (zm0 underlying22 underlying5 underlying9 rfl (w9 l)) (zi (fw (z81 G1)) (za (ql ?_)));obtain rfl:=Option.some.inj b;refine qf (D:=[]) (J:=[]) (rs:=[.tmp 2]) (vs:=[(fw (z81 G1))]) (d.trans c) rfl rfl ⟨rfl,trivial⟩ ?_;exact⟨rfl,rfl⟩
theorem zz3:Enters prog 18:=enters_of func18 rfl (by kernel_rfl)
theorem zdk{N:Nat}{R:RH}{x:(Int×Int)}{r:Bool}(a:z4q N x=some r):CallP prog 19 #[(ak x)] R (fun v R'=>v=(.bool r)):=by
 refine qm (args:=[(ak x)]) func19 rfl rfl fun A=>?_;rw [z4q] at a;refine zu (z6x (T:=kA2tInti64) rfl rfl (bv.2 rfl) fun j k b e=>?_);refine zi (.bool false) (qo (z92 (i:=0) rfl znu z7d rfl e rfl (by decide) fun l f=>?_));refine ku rfl ty3 rfl f fun m g=>?_;obtain rfl:=qb.1 g
 refine z92 (i:=1) rfl znu z7e rfl e rfl (by decide) fun n c=>?_;refine ku rfl ty3 rfl c fun h d=>?_;obtain rfl:=qb.1 d;refine zx (pg rfl rfl) (zi (.bool (decide (x.1=x.2))) (za (ql ?_)));obtain rfl:=Option.some.inj a
 refine qf (D:=[]) (J:=[]) (rs:=[.tmp 2]) (vs:=[(.bool (decide (x.1=x.2)))]) b rfl rfl ⟨rfl,trivial⟩ ?_;exact⟨rfl,rfl⟩
theorem zyl:Enters prog 19:=enters_of func19 rfl (by kernel_rfl)
theorem zi1:FieldOk prog 56 0 0:=by
 obtain⟨i,hi,a⟩: ∃ i,prog.info? 28=some i∧i.size=3:=pz (by kernel_rfl);exact lv underlying56 rfl rfl hi (by rw [a];rfl)
theorem zb3{N:Nat}{R:RH}{b:Sd}{c:Value}(e:VRep (iw false false) R c b){x:(Int×Int)}{i:Int}{r:(Int×Int)}(a:z08 N b x i=some r):CallP prog 21 #[c,(ak x),(vi i)] R (fun v R'=>v=(ak r)):=by
 refine qm (args:=[c,(ak x),(vi i)]) func21 rfl rfl fun A=>?_;rw [z08] at a;refine zu (ah (T:=(iw false false)) rfl rfl rfl e fun v1 R3 l h5 K=>?_);refine z6x (T:=kA2tInti64) rfl rfl (bv.2 rfl) fun v6 R8 d L=>?_;refine mh rfl zvv fun m=>?_
 refine za (q8 (z3o 23 mixed (by kernel_rfl) (by kernel_rfl) ?_));refine z2u (ax zi1 z2f rfl (K.mono d)) fun M n=>?_;refine z2u (ax ry ai rfl n) fun O o=>?_;refine z2u (xe z6d rfl o) fun P p=>?_;refine z2u (zf9 (i:=0) znu z7d rfl L rfl (by decide)) fun Q q=>?_
 refine dh (lh (xe ty3 rfl q)) ?_;obtain⟨f,a⟩:=ze a;refine z2u (fq (i:=x.1.toNat) zg0 rfl (w9 p) (zm rfl f.1) (zy f)) fun S s=>?_;refine z2u (xe zf8 rfl s) fun U t=>?_;refine dh (v:=(vi i)) (z8 rfl) ?_;obtain⟨g,a⟩:=ze a
 refine z2u (fq (i:=i.toNat) zei rfl (w9 t) (zm rfl g.1) (zy g)) fun V u=>?_;refine z2u (ax z8q z7w rfl u) fun W y=>?_;refine dh (lh (xe ty3 rfl y)) ?_;refine z2u (ax zi1 z2f rfl (K.mono d)) fun X z=>?_;refine z2u (ax ry ai rfl z) fun Y B=>?_
 refine z2u (xe z6d rfl B) fun Z C=>?_;refine z2u (zf9 (i:=1) znu z7e rfl L rfl (by decide)) fun aa E=>?_;refine dh (lh (xe ty3 rfl E)) ?_;obtain⟨h,a⟩:=ze a;refine z2u (fq (i:=x.2.toNat) zg0 rfl (w9 C) (zm rfl h.1) (zy h)) fun ab F=>?_;refine z2u (xe zf8 rfl F) fun ac G=>?_
 refine dh (v:=(vi i)) (z8 rfl) ?_;obtain⟨j,a⟩:=ze a;refine z2u (fq (i:=i.toNat) zei rfl (w9 G) (zm rfl j.1) (zy j)) fun ad H=>?_;refine z2u (ax z8q z7w rfl H) fun ae I=>?_;refine dh (lh (xe ty3 rfl I)) ?_
 refine dh (v:=(.agg #[(vi ((ix (ix b.fD.rows x.1) i).to)),(vi ((ix (ix b.fD.rows x.2) i).to))])) (wh (ps:=[(0,(vi ((ix (ix b.fD.rows x.1) i).to))),(1,(vi ((ix (ix b.fD.rows x.2) i).to)))]) (v:=(.agg #[(vi ((ix (ix b.fD.rows x.1) i).to)),(vi ((ix (ix b.fD.rows x.2) i).to))])) rfl (fun w=>by kernel_rfl)) ?_;intro af k
 refine dm (i:=0) (vs:=[(vi ((ix (ix b.fD.rows x.1) i).to)),(vi ((ix (ix b.fD.rows x.2) i).to))]) zhs rfl rfl rfl rfl rfl rfl (j5 rfl (j5 rfl ny)) ?_;refine za (ql ?_);obtain rfl:=Option.some.inj a
 refine qf (D:=[]) (J:=[box m [(vi ((ix (ix b.fD.rows x.1) i).to)),(vi ((ix (ix b.fD.rows x.2) i).to))] 50]) (rs:=[.cell 6 50]) (vs:=[(.agg #[(vi ((ix (ix b.fD.rows x.1) i).to)),(vi ((ix (ix b.fD.rows x.2) i).to))])]) ((l.trans d).trans k) rfl rfl ⟨⟨_,rfl,fun w hh=>z5q (i:=0) hh rfl rfl zof zhs rfl rfl⟩,trivial⟩ ?_
 exact⟨rfl,rfl⟩
theorem zxz:Enters prog 21:=enters_of func21 rfl (by kernel_rfl)
theorem z1j{N:Nat}{R:RH}{m:Mach}{g:Value}(e:VRep (uw false false) R g m){s:Int}{t:Int}{r:(List Int)×Int}(a:dw N m s t=some r):CallP prog 7 #[g,(vi s),(vi t)] R (fun v R'=> ∃ i,v= .tuple #[i,(vi r.2)]∧VRep (tSl true (qa .i64)) R' i r.1):=by
 refine qm (args:=[g,(vi s),(vi t)]) func7 rfl rfl fun A=>?_;rw [dw] at a;refine zu (ah (T:=(uw false false)) rfl rfl rfl e fun v1 R3 d X x=>?_);refine zi vs0 (zi (vi 0) (za (q8 (zu (zx (yz z3m rfl rfl X (e.mono d)) ?_)))));obtain⟨j,c7,a⟩:=zt a
 refine ja rfl znx rfl (z1i (e.mono d) c7) fun v8 ac b h9=>?_;obtain rfl:=h9;refine zi (vi j) (qo (zg (vi j) (zx (yt rfl rfl) (za (q9 rfl a (fun a=>?_) (fun a=>?_))))));refine zu (zg (vi j) (zi vs0 (zi (vi j) (za (ql ?_)))));obtain rfl:=Option.some.inj a
 refine qf (D:=[]) (J:=[]) (rs:=[.tmp 6,.tmp 7]) (vs:=[vs0,(vi j)]) (d.trans b) rfl rfl ⟨rfl,rfl,trivial⟩ ?_;exact⟨rfl,⟨vs0,rfl,z0c⟩⟩
 refine qc (q8 (zu (jd (v:=(vi s)) rfl (z8 rfl) (jd rfl (jv rfl rfl) (jd (v:=(.bool (decide (s<0)))) rfl (z8 rfl) (qw rfl rfl rfl rfl (fun c=>qi (v:=(vi t)) (z8 rfl)) fun ae z=>?_))))));refine qw rfl rfl rfl rfl (fun c=>qi (jv (z.1 (zq rfl c)) rfl)) fun af B=>?_
 refine jd rfl (av rfl rfl (fun k=>(B.1 (zq rfl k)))) (jd (v:=(.bool ((decide (s<0))||(decide (t<0))))) rfl (z8 rfl) (qw rfl rfl rfl rfl (fun c=>qi (v:=(vi s)) (z8 rfl)) fun ag C=>?_));refine qw rfl rfl rfl rfl (fun c=>ax ry ai rfl (x.mono b)) fun aj E=>?_
 refine qw rfl rfl rfl rfl (fun c=>xe z6d rfl (E.1 (zq rfl c))) fun ak F=>?_;refine qw rfl rfl rfl rfl (fun c=>qi (jh rfl underlying26 rfl (w9 (F.1 (zq rfl c))))) fun al G=>?_;refine qw rfl rfl rfl rfl (fun c=>qi (sj (C.1 (zq rfl c)) (G.1 (zq rfl c)))) fun am H=>?_
 refine jd rfl (av rfl rfl (fun k=>(H.1 (zq rfl k)))) (jd (v:=(.bool (((decide (s<0))||(decide (t<0)))||(decide ((↑m.rows.length:Int)≤s))))) rfl (z8 rfl) (qw rfl rfl rfl rfl (fun c=>qi (v:=(vi t)) (z8 rfl)) fun an I=>?_));refine qw rfl rfl rfl rfl (fun c=>ax ry ai rfl (x.mono b)) fun ao K=>?_
 refine qw rfl rfl rfl rfl (fun c=>xe z6d rfl (K.1 (zq rfl c))) fun ap L=>?_;refine qw rfl rfl rfl rfl (fun c=>qi (jh rfl underlying26 rfl (w9 (L.1 (zq rfl c))))) fun aq M=>?_;refine qw rfl rfl rfl rfl (fun c=>qi (sj (I.1 (zq rfl c)) (M.1 (zq rfl c)))) fun ar O=>?_
 refine jd rfl (av rfl rfl (fun k=>(O.1 (zq rfl k)))) (za (q9 rfl a (fun a=>?_) (fun a=>?_)));refine zu (zi vs0 (zi (vi 1) (za (ql ?_))));obtain rfl:=Option.some.inj a;refine qf (D:=[]) (J:=[]) (rs:=[.tmp 6,.tmp 7]) (vs:=[vs0,(vi 1)]) (d.trans b) rfl rfl ⟨rfl,rfl,trivial⟩ ?_
 exact⟨rfl,⟨vs0,rfl,z0c⟩⟩;refine qc (zu (zi (.func (.func 18) #[] #[]) (qo (zi (.func (.func 19) #[] #[]) (za (q8 ?_))))));obtain⟨f,rfl,l⟩:=z4m (e.mono (d.trans b));refine zz (dz rfl z6i z1p rfl (x.mono b) fun au P=>?_);refine ku rfl ty3 rfl P fun aw Q=>?_;obtain rfl:=qb.1 Q
 refine zg (vi s) (zg (vi t) (zx (wh (ps:=[(0,(vi s)),(1,(vi t))]) (v:=(.agg #[(vi s),(vi t)])) rfl (fun w=>by kernel_rfl)) (zg (.func (.func 18) #[] #[]) (zg (.func (.func 19) #[] #[]) (zx (yz z3m rfl rfl (X.mono b) (⟨_,⟨_,_,rfl,rfl,⟨_,_,rfl,rfl,(jy rfl l)⟩⟩,rfl⟩:VRep (uw false false) _ _ (⟨m.inputs,m.outputs,m.rows⟩:Mach))) (zx (wh (ps:=[(0,(.agg #[(vi m.inputs),(vi m.outputs),f]))]) (v:=(.agg #[(vi m.inputs),(vi m.outputs),f])) rfl (fun w=>by kernel_rfl)) (zx (z0q (fs:=[(.agg #[(vi m.inputs),(vi m.outputs),f])]) (cs:=[]) rfl rfl) ?_)))))))
 obtain⟨n,S,a⟩:=zt a
 refine ja rfl zz2 rfl (z9j (from_:=((s,t):(Int×Int))) (z5p (cs:=[]) zz3 fun Y U Z i y o p=>by obtain rfl:=bv.1 o;exact CallP.mono (zdo  p) fun v R2 _ q=>z3r.2 q) (z5p (cs:=[]) zyl fun Y U Z i y o p=>by obtain rfl:=bv.1 o;exact CallP.mono (zdk  p) fun v R2 _ q=>su.2 q) (zfh (fs:=[(.agg #[(vi m.inputs),(vi m.outputs),f])]) zxz fun Y U Z z1 i u1 y o k1 p=>by obtain rfl:=bv.1 o;obtain rfl:=qb.1 k1;exact CallP.mono (zb3 (VRep.mono (⟨_,⟨_,_,rfl,rfl,⟨_,_,rfl,rfl,(jy rfl l)⟩⟩,rfl⟩:VRep (iw false false) _ _ (⟨(⟨m.inputs,m.outputs,m.rows⟩:Mach)⟩:Sd)) U) p) fun v R2 _ q=>bv.2 q) S) fun az aA u V=>?_
 obtain⟨h,rfl,W⟩:=V;refine zx (qh rfl rfl) (zx (qh rfl rfl) (zi h (zi (vi n.2) (za (ql ?_)))));obtain rfl:=Option.some.inj a;refine qf (D:=[]) (J:=[]) (rs:=[.tmp 6,.tmp 7]) (vs:=[h,(vi n.2)]) ((d.trans b).trans u) rfl rfl ⟨rfl,rfl,trivial⟩ ?_;exact⟨rfl,⟨h,rfl,W⟩⟩
theorem en7:Enters prog 7:=enters_of func7 rfl (by kernel_rfl)
theorem zwq{a:Bool}:ZeroOk prog 30 (tSl a (qa .i64)) ([]:List Int) 24:=by
 obtain⟨i,zv,hi,c,d,f,g⟩:=z0j (P:=prog) (e:=30) (zv:=vs0) (k:=1) (b:=24) (by kernel_rfl);exact⟨i,zv,hi,c,d,f,fun R=>by subst g;exact(jy rfl z0c)⟩
theorem zvt{a:Bool}:TyOk prog 30 (tSl a (qa .i64)):=by
 obtain⟨i,hi,b⟩: ∃ i,prog.info? 30=some i∧i.size=1:=pz (by kernel_rfl);exact z2e underlying30 hi rfl b
theorem zwk{a:Bool}:SlOk prog 57 30 (tSl a (qa .i64)):=⟨underlying57,zvt⟩
theorem z7i{N:Nat}{R:RH}  {r:Mach×Mach} (W:z19 N  =some r):CallP prog 23 #[] R (fun v R'=> ∃ u0 u1,v= .tuple #[u0,u1]∧VRep (uw true true) R' u0 r.1∧VRep (uw true true) R' u1 r.2):=by
 refine qm (args:=[]) func23 rfl rfl fun A=>?_;rw [z19] at W;refine zu (mh rfl zhj fun b1=>?_);refine mh rfl zhj fun b3=>?_
 refine qo (zx (wh (ps:=[(0,(vi 1))]) (v:=(.agg #[(vi 1),(vi 0)])) rfl (fun w=>by kernel_rfl)) (zx (wh (ps:=[(0,(vi 0))]) (v:=(.agg #[(vi 0),(vi 0)])) rfl (fun w=>by kernel_rfl)) ?_));let G3:=([(⟨1,0⟩:Edge),(⟨0,0⟩:Edge)]:List Edge)
 refine oz (T:=kEdge) (X:=G3) (ps:=[(0,(.agg #[(vi 1),(vi 0)])),(1,(.agg #[(vi 0),(vi 0)]))]) (css:=[[(vi 1),(vi 0)],[(vi 0),(vi 0)]]) rfl underlying46 zhk rfl rfl (jq ⟨⟨_,_,rfl,rfl,rfl⟩,⟨_,_,rfl,rfl,rfl⟩,trivial⟩) rfl rfl (by decide) fun v5 f6 Y h8=>?_
 refine zx (wh (ps:=[(0,(vi 2))]) (v:=(.agg #[(vi 2),(vi 0)])) rfl (fun w=>by kernel_rfl)) (zx (wh (ps:=[(0,(vi 1)),(1,(vi 1))]) (v:=(.agg #[(vi 1),(vi 1)])) rfl (fun w=>by kernel_rfl)) (oz (T:=kEdge) (X:=([(⟨2,0⟩:Edge),(⟨1,1⟩:Edge)]:List Edge)) (ps:=[(0,(.agg #[(vi 2),(vi 0)])),(1,(.agg #[(vi 1),(vi 1)]))]) (css:=[[(vi 2),(vi 0)],[(vi 1),(vi 1)]]) rfl underlying46 zhk rfl rfl (jq ⟨⟨_,_,rfl,rfl,rfl⟩,⟨_,_,rfl,rfl,rfl⟩,trivial⟩) rfl rfl (by decide) fun z aT B am=>?_))
 refine zx (wh (ps:=[(0,(vi 0)),(1,(vi 1))]) (v:=(.agg #[(vi 0),(vi 1)])) rfl (fun w=>by kernel_rfl)) (zx (wh (ps:=[(0,(vi 2))]) (v:=(.agg #[(vi 2),(vi 0)])) rfl (fun w=>by kernel_rfl)) (oz (T:=kEdge) (X:=([(⟨0,1⟩:Edge),(⟨2,0⟩:Edge)]:List Edge)) (ps:=[(0,(.agg #[(vi 0),(vi 1)])),(1,(.agg #[(vi 2),(vi 0)]))]) (css:=[[(vi 0),(vi 1)],[(vi 2),(vi 0)]]) rfl underlying46 zhk rfl rfl (jq ⟨⟨_,_,rfl,rfl,rfl⟩,⟨_,_,rfl,rfl,rfl⟩,trivial⟩) rfl rfl (by decide) fun C aU E an=>?_))
 refine p8 (i:=2) rfl h8 fun ao m ap=>?_;have Z:VRep (tSl true kEdge) ao v5 G3:=(z1c ap Y);refine p8 (i:=1) rfl (am.mono m) fun aq k ar=>?_;have aa:VRep (tSl true kEdge) aq z ([(⟨2,0⟩:Edge),(⟨1,1⟩:Edge)]:List Edge):=(z1c ar B);refine p8 (i:=0) rfl (an.mono (m.trans k)) fun au g av=>?_
 have ab:VRep (tSl true kEdge) au C ([(⟨0,1⟩:Edge),(⟨2,0⟩:Edge)]:List Edge):=(z1c av E);let G1:=([([(⟨1,0⟩:Edge),(⟨0,0⟩:Edge)]:List Edge),([(⟨2,0⟩:Edge),(⟨1,1⟩:Edge)]:List Edge),([(⟨0,1⟩:Edge),(⟨2,0⟩:Edge)]:List Edge)]:List (List Edge))
 refine oz (T:=(tSl true kEdge)) (X:=G1) (ps:=[(0,v5),(1,z),(2,C)]) (css:=[[v5],[z],[C]]) rfl underlying26 zw1 rfl (by simp only [List.map_cons,List.map_nil,z1e (Z.mono (k.trans g)),z1e (aa.mono g),z1e ab];rfl) (jq ⟨(jy rfl (Z.mono (k.trans g))),(jy rfl (aa.mono g)),(jy rfl ab),trivial⟩) rfl rfl (by decide) fun a F G o=>?_
 refine zx (z2z [(0,(vi 2)),(1,(vi 2)),(2,(.agg #[a]))] (ps:=[(0,(vi 2)),(1,(vi 2)),(2,a)]) (v:=(.agg #[(vi 2),(vi 2),a])) rfl (by simp only [List.map_cons,List.map_nil,z16 o];rfl) (fun w=>by kernel_rfl)) (mh rfl zhj fun p=>?_)
 refine dm (i:=0) (vs:=[(vi 2),(vi 2),a]) z1l rfl rfl rfl rfl rfl rfl (j5 rfl (j5 rfl (j5 (z2m o) ny))) ?_
 refine qo (zx (wh (ps:=[(0,(vi 1))]) (v:=(.agg #[(vi 1),(vi 0)])) rfl (fun w=>by kernel_rfl)) (zx (wh (ps:=[]) (v:=(.agg #[(vi 0),(vi 0)])) rfl (fun w=>by kernel_rfl)) (oz (T:=kEdge) (X:=G3) (ps:=[(0,(.agg #[(vi 1),(vi 0)])),(1,(.agg #[(vi 0),(vi 0)]))]) (css:=[[(vi 1),(vi 0)],[(vi 0),(vi 0)]]) rfl underlying46 zhk rfl rfl (jq ⟨⟨_,_,rfl,rfl,rfl⟩,⟨_,_,rfl,rfl,rfl⟩,trivial⟩) rfl rfl (by decide) fun H aV I aw=>?_)))
 refine zx (wh (ps:=[(0,(vi 2))]) (v:=(.agg #[(vi 2),(vi 0)])) rfl (fun w=>by kernel_rfl)) (zx (wh (ps:=[]) (v:=(.agg #[(vi 0),(vi 0)])) rfl (fun w=>by kernel_rfl)) ?_);let G4:=([(⟨2,0⟩:Edge),(⟨0,0⟩:Edge)]:List Edge)
 refine oz (T:=kEdge) (X:=G4) (ps:=[(0,(.agg #[(vi 2),(vi 0)])),(1,(.agg #[(vi 0),(vi 0)]))]) (css:=[[(vi 2),(vi 0)],[(vi 0),(vi 0)]]) rfl underlying46 zhk rfl rfl (jq ⟨⟨_,_,rfl,rfl,rfl⟩,⟨_,_,rfl,rfl,rfl⟩,trivial⟩) rfl rfl (by decide) fun K aW L ax=>?_
 refine zx (wh (ps:=[(0,(vi 2))]) (v:=(.agg #[(vi 2),(vi 0)])) rfl (fun w=>by kernel_rfl)) (zx (wh (ps:=[]) (v:=(.agg #[(vi 0),(vi 0)])) rfl (fun w=>by kernel_rfl)) (oz (T:=kEdge) (X:=G4) (ps:=[(0,(.agg #[(vi 2),(vi 0)])),(1,(.agg #[(vi 0),(vi 0)]))]) (css:=[[(vi 2),(vi 0)],[(vi 0),(vi 0)]]) rfl underlying46 zhk rfl rfl (jq ⟨⟨_,_,rfl,rfl,rfl⟩,⟨_,_,rfl,rfl,rfl⟩,trivial⟩) rfl rfl (by decide) fun M aX P ay=>?_))
 refine p8 (i:=2) rfl aw fun az j aA=>?_;have ac:VRep (tSl true kEdge) az H G3:=(z1c aA I);refine p8 (i:=1) rfl (ax.mono j) fun aB f aC=>?_;have ad:VRep (tSl true kEdge) aB K G4:=(z1c aC L);refine p8 (i:=0) rfl (ay.mono (j.trans f)) fun aD d aE=>?_;have ae:VRep (tSl true kEdge) aD M G4:=(z1c aE P)
 let G2:=([([(⟨1,0⟩:Edge),(⟨0,0⟩:Edge)]:List Edge),([(⟨2,0⟩:Edge),(⟨0,0⟩:Edge)]:List Edge),([(⟨2,0⟩:Edge),(⟨0,0⟩:Edge)]:List Edge)]:List (List Edge))
 refine oz (T:=(tSl true kEdge)) (X:=G2) (ps:=[(0,H),(1,K),(2,M)]) (css:=[[H],[K],[M]]) rfl underlying26 zw1 rfl (by simp only [List.map_cons,List.map_nil,z1e (ac.mono (f.trans d)),z1e (ad.mono d),z1e ae];rfl) (jq ⟨(jy rfl (ac.mono (f.trans d))),(jy rfl (ad.mono d)),(jy rfl ae),trivial⟩) rfl rfl (by decide) fun b Q S q=>?_
 refine zx (z2z [(0,(vi 2)),(1,(vi 1)),(2,(.agg #[b]))] (ps:=[(0,(vi 2)),(1,(vi 1)),(2,b)]) (v:=(.agg #[(vi 2),(vi 1),b])) rfl (by simp only [List.map_cons,List.map_nil,z16 q];rfl) (fun w=>by kernel_rfl)) (mh rfl zhj fun s=>?_)
 refine dm (i:=0) (vs:=[(vi 2),(vi 1),b]) z1l rfl rfl rfl rfl rfl rfl (j5 rfl (j5 rfl (j5 (z2m q) ny))) ?_;refine za (q8 ?_)
 refine z0i [2,3] [(fun es=>phX (.agg #[(vi 2),(vi 2),a])),(fun es=>phX (.agg #[(vi 2),(vi 1),b])),(fun es=>(fun _ _=>True)),(fun es=>(fun _ _=>True))] (fun fl es R O=>(fl=[false,false]∧O.Perm ([box s [(vi 2),(vi 1),b] 28,Q,box p [(vi 2),(vi 2),a] 28,F,box b3 [(vi 0),(vi 0),vs0] 28,box b1 [(vi 0),(vi 0),vs0] 28]++A)∧True)∨(fl=[true,false]∧O.Perm ([box s [(vi 2),(vi 1),b] 28,Q,box p [(vi 2),(vi 2),a] 28,F,box b3 [(vi 0),(vi 0),vs0] 28,box b1 [(vi 2),(vi 2),a] 28]++A)∧True)∨(fl=[true,true]∧O.Perm ([box s [(vi 2),(vi 1),b] 28,Q,box p [(vi 2),(vi 2),a] 28,F,box b3 [(vi 2),(vi 1),b] 28,box b1 [(vi 2),(vi 2),a] 28]++A)∧True)) mixed (by kernel_rfl) ⟨(zk zf),(zk zf),(fun _ _ _ _ _ h=>h),(fun _ _ _ _ _ h=>h),trivial⟩ (by rintro fl es R R' O t (⟨rfl,c,_⟩|⟨rfl,c,_⟩|⟨rfl,c,_⟩);exact(.inl ⟨rfl,c,trivial⟩);exact(.inr (.inl ⟨rfl,c,trivial⟩));exact(.inr (.inr ⟨rfl,c,trivial⟩))) ⟨(fun _ _ _ _ _ h=>h),(fun _ _ _ _ _ h=>h),(fun _ _ _ _ _ h=>h),(fun _ _ _ _ _ h=>h),trivial⟩ (fun es=> .inl ⟨rfl,(List.Perm.refl _),trivial⟩) ⟨?_,?_,?_,?_,trivial⟩ fun aY n=>?_
 intro l aZ fl O t u hd U V;rcases V with⟨rfl,c,_⟩|⟨rfl,c,_⟩|⟨rfl,c,_⟩;exact uo c (zl (u6 (i:=2) z4d z1l (u 2 rfl) rfl rfl rfl));exact uz U (by kernel_rfl);exact uz U (by kernel_rfl);intro l a0 fl O t u hd U V;obtain⟨d0,_⟩:=hd;rcases V with⟨rfl,c,_⟩|⟨rfl,c,_⟩|⟨rfl,c,_⟩
 exact uo c (zl (u6 (i:=0) z4d z1l (u 3 rfl) rfl rfl rfl));exact uo c (zl (u6 (i:=0) z4d z1l (u 3 rfl) rfl rfl rfl));exact uz U (by kernel_rfl);intro l a1 fl O t u hd U hf V;obtain⟨d0,d1,d2,_⟩:=hd;rcases V with⟨rfl,c,_⟩|⟨rfl,c,_⟩|⟨rfl,c,_⟩;refine vv c ?_
 refine Eff.mono (z4l (i:=5) (vs:=[(vi 2),(vi 2),a]) z1l (u 0 rfl) (d0 rfl) rfl rfl rfl (Nat.le_of_ble_eq_true rfl) (j5 rfl (j5 rfl (j5 (z2m (o.mono ((j.trans f).trans d))) ny)))) ?_;rintro v R' O' hle' ⟨_,rfl,rfl⟩;exact⟨trivial,.inr (.inl ⟨rfl,(List.Perm.refl _),trivial⟩)⟩;cases hf;cases hf
 intro l a4 fl O t u hd U hf V;obtain⟨d0,d1,d2,d3,d4,_⟩:=hd;rcases V with⟨rfl,c,_⟩|⟨rfl,c,_⟩|⟨rfl,c,_⟩;exact uz U (by kernel_rfl);refine vv c ?_;refine Eff.mono (z4l (i:=4) (vs:=[(vi 2),(vi 1),b]) z1l (u 1 rfl) (d0 rfl) rfl rfl rfl (Nat.le_of_ble_eq_true rfl) (j5 rfl (j5 rfl (j5 (z2m q) ny)))) ?_
 rintro v R' O' hle' ⟨_,rfl,rfl⟩;exact⟨trivial,.inr (.inr ⟨rfl,(List.Perm.refl _),trivial⟩)⟩;cases hf;intro a5 a6 aG aH;rintro aR (⟨e,_⟩|⟨e,_⟩|⟨_,c,_⟩);cases e;cases e;refine⟨[],_,c,?_⟩;obtain rfl:=Eq.symm aG;obtain rfl:=Eq.symm aH;refine za (z1z (i:=3) rfl (o.mono (((j.trans f).trans d).trans n)) fun aI x aJ=>?_)
 have aK:VRep (tSl true (tSl true kEdge)) aI a G1:=(z1c aJ G);refine z1z (i:=1) rfl (q.mono (n.trans x)) fun aL y aM=>?_;have aN:VRep (tSl true (tSl true kEdge)) aL b G2:=(z1c aM S);refine ql ?_;obtain rfl:=Option.some.inj W
 refine qf (D:=[]) (J:=[box s [(vi 2),(vi 1),b] 28,box p [(vi 2),(vi 2),a] 28,box b3 [(vi 2),(vi 1),b] 28,box b1 [(vi 2),(vi 2),a] 28]) (rs:=[.cell 0 28,.cell 1 28]) (vs:=[(.agg #[(vi 2),(vi 2),a]),(.agg #[(vi 2),(vi 1),b])]) ((((((((m.trans k).trans g).trans j).trans f).trans d).trans n).trans x).trans y) rfl rfl ⟨⟨_,rfl,fun w hh=>z5q (i:=3) hh rfl rfl z4d z1l rfl rfl⟩,⟨_,rfl,fun w hh=>z5q (i:=2) hh rfl rfl z4d z1l rfl rfl⟩,trivial⟩ ?_
 exact⟨rfl,⟨(.agg #[(vi 2),(vi 2),a]),(.agg #[(vi 2),(vi 1),b]),rfl,(⟨_,⟨_,_,rfl,rfl,⟨_,_,rfl,rfl,(jy rfl (aK.mono y))⟩⟩,rfl⟩:VRep (uw true true) _ _ (⟨2,2,G1⟩:Mach)),(⟨_,⟨_,_,rfl,rfl,⟨_,_,rfl,rfl,(jy rfl aN)⟩⟩,rfl⟩:VRep (uw true true) _ _ (⟨2,1,G2⟩:Mach))⟩⟩
end GV
end Go.Proofs.Ytjmlpkkbmnjhcaa
