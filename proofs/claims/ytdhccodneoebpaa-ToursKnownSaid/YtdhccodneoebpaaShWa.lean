import Derived.Test.YtdhccodneoebpaaShPlain
import Derived.Test.YtdhccodneoebpaaRows
set_option linter.unusedVariables false
set_option linter.unusedSimpArgs false
set_option linter.unusedSectionVars false
namespace Go.Proofs.Ytdhccodneoebpaa
namespace GV
open _root_.Go.Proofs.Try
open Go.IntWalk
set_option maxRecDepth 100000
set_option maxHeartbeats 20000000
theorem zg4: ∀ w,∃ z,(zeroValue 27).run prog w= .ok z w∧z.cells=([.int .i64 0,.int .i64 0,.slice none 0 0]:List Value).toArray:=fun w=>⟨(.agg #[(vi 0),(vi 0),vs0]),by kernel_rfl,rfl⟩
theorem z3t: ∀ w,(sizeOf 27).run prog w= .ok 3 w:=fun w=>by kernel_rfl
theorem z4l:FieldOk prog 27 0 0:=by
 obtain⟨i,hi,a⟩: ∃ i,prog.info? 3=some i∧i.size=1:=ky (by kernel_rfl);exact gq underlying27 rfl rfl hi (by rw [a];rfl)
theorem ag3: ∀ w,(isAgg 3).run prog w= .ok false w:=fun w=>by kernel_rfl
theorem ty4:TyOk prog 4 dm:=by
 obtain⟨i,hi,a⟩: ∃ i,prog.info? 4=some i∧i.size=1:=ky (by kernel_rfl);exact z0k underlying4 hi rfl a
theorem zaa:ZeroOk prog 53 kEdge (⟨(0:Int),(0:Int)⟩:Edge) 16:=by
 obtain⟨i,zv,hi,a,c,d,f⟩:=z0a (P:=prog) (e:=53) (zv:=(.agg #[(vi 0),(vi 0)])) (k:=2) (b:=16) (by kernel_rfl);exact⟨i,zv,hi,a,c,d,fun R=>by subst f;exact⟨_,_,rfl,rfl,rfl⟩⟩
theorem zga:FieldOk prog 27 1 1:=by
 obtain⟨i,hi,a⟩: ∃ i,prog.info? 3=some i∧i.size=1:=ky (by kernel_rfl);exact gq underlying27 rfl rfl hi (by rw [a];rfl)
theorem mixed:prog.follows .mixedOrders=true:=by kernel_rfl
theorem xw:FieldOk prog 27 2 2:=by
 obtain⟨i,hi,a⟩: ∃ i,prog.info? 25=some i∧i.size=1:=ky (by kernel_rfl);exact gq underlying27 rfl rfl hi (by rw [a];rfl)
theorem zl2{a:Bool}:ZeroOk prog 54 (tSl a kEdge) ([]:List Edge) 24:=by
 obtain⟨i,zv,hi,c,d,f,g⟩:=z0a (P:=prog) (e:=54) (zv:=vs0) (k:=1) (b:=24) (by kernel_rfl);exact⟨i,zv,hi,c,d,f,fun R=>by subst g;exact(kw rfl z0h)⟩
theorem z8r: ∀ w,(isAgg 27).run prog w= .ok true w:=fun w=>by kernel_rfl
theorem z2m{a b:Bool}:TyOk prog 27 (jm a b):=by
 obtain⟨i,hi,c⟩: ∃ i,prog.info? 27=some i∧i.size=3:=ky (by kernel_rfl);exact z0k underlying27 hi rfl c
theorem z3s{a b:Bool}:TyOk prog 25 (tSl a (tSl b kEdge)):=by
 obtain⟨i,hi,c⟩: ∃ i,prog.info? 25=some i∧i.size=1:=ky (by kernel_rfl);exact z0k underlying25 hi rfl c
theorem zv5{a:Bool}:ZeroOk prog 36 (tSl a (qb .i64)) ([]:List Int) 24:=by
 obtain⟨i,zv,hi,c,d,f,g⟩:=z0a (P:=prog) (e:=36) (zv:=vs0) (k:=1) (b:=24) (by kernel_rfl);exact⟨i,zv,hi,c,d,f,fun R=>by subst g;exact(kw rfl z0h)⟩
theorem zo4:ZeroOk prog 4 dm false 1:=by
 obtain⟨i,zv,hi,a,c,d,f⟩:=z0a (P:=prog) (e:=4) (zv:=(.bool false)) (k:=1) (b:=1) (by kernel_rfl);exact⟨i,zv,hi,a,c,d,fun R=>by subst f;exact rfl⟩
theorem zo3:ZeroOk prog 3 (qb .i64) (0:Int) 8:=by
 obtain⟨i,zv,hi,a,c,d,f⟩:=z0a (P:=prog) (e:=3) (zv:=(vi 0)) (k:=1) (b:=8) (by kernel_rfl);exact⟨i,zv,hi,a,c,d,fun R=>by subst f;exact rfl⟩
theorem zuh: ∀ w,∃ z,(zeroValue 53).run prog w= .ok z w∧z.cells=([.int .i64 0,.int .i64 0]:List Value).toArray:=fun w=>⟨(.agg #[(vi 0),(vi 0)]),by kernel_rfl,rfl⟩
theorem zlm: ∀ w,(sizeOf 53).run prog w= .ok 2 w:=fun w=>by kernel_rfl
theorem zcy{a:Bool}:TyOk prog 54 (tSl a kEdge):=by
 obtain⟨i,hi,b⟩: ∃ i,prog.info? 54=some i∧i.size=1:=ky (by kernel_rfl);exact z0k underlying54 hi rfl b
theorem ze3{a:Bool}:SlOk prog 25 54 (tSl a kEdge):=⟨underlying25,zcy⟩
theorem zla:TyOk prog 53 kEdge:=by
 obtain⟨i,hi,a⟩: ∃ i,prog.info? 53=some i∧i.size=2:=ky (by kernel_rfl);exact z0k underlying53 hi rfl a
theorem znb:SlOk prog 54 53 kEdge:=⟨underlying54,zla⟩
theorem zyo: ∀ w,(isAgg 53).run prog w= .ok true w:=fun w=>by kernel_rfl
theorem ty3:TyOk prog 3 (qb .i64):=by
 obtain⟨i,hi,a⟩: ∃ i,prog.info? 3=some i∧i.size=1:=ky (by kernel_rfl);exact z0k underlying3 hi rfl a
theorem dz:SlOk prog 36 3 (qb .i64):=⟨underlying36,ty3⟩
theorem zcd:SlOk prog 88 4 dm:=⟨underlying88,ty4⟩
theorem z7l{a:Bool}:TyOk prog 36 (tSl a (qb .i64)):=by
 obtain⟨i,hi,b⟩: ∃ i,prog.info? 36=some i∧i.size=1:=ky (by kernel_rfl);exact z0k underlying36 hi rfl b
theorem z7m{a:Bool}:SlOk prog 30 36 (tSl a (qb .i64)):=⟨underlying30,z7l⟩
theorem zcn:FieldOk prog 53 0 0:=by
 obtain⟨i,hi,a⟩: ∃ i,prog.info? 3=some i∧i.size=1:=ky (by kernel_rfl);exact gq underlying53 rfl rfl hi (by rw [a];rfl)
theorem zsc:FieldOk prog 53 1 1:=by
 obtain⟨i,hi,a⟩: ∃ i,prog.info? 3=some i∧i.size=1:=ky (by kernel_rfl);exact gq underlying53 rfl rfl hi (by rw [a];rfl)
theorem z6k{N:Nat}{R:RH}{s:(List Edge)}{c:Value}(k:VRep (tSl false kEdge) R c s){f:Edge→Option Bool}{e:Value}(n:FOk1 prog R e kEdge dm f){r:Int}(b:dw N s f=some r):CallP prog 88 #[c,e] R (fun v R'=>v=(vi r)):=by
 refine qy (args:=[c,e]) func88 rfl rfl fun A=>?_;rw [dw] at b;refine zx (zo (vi 0) (z8 ?_));obtain⟨o,a,b⟩:=zn b;refine ji (γ:=Unit) (rs [4,19]) (fun g=>[]) (fun g=>[]++A) (fun g R=>o=Ex.go g∧True) ?_ ?_
 refine zx (zw c (zi (ja rfl underlying54 rfl (jv k)) (zw (vi 0) (z8 (q9 (uk (γ:=Nat×Int) (rs [4,6,8,19]) (fun g=>[(8,(vi g.2))]) (fun g=>[]++A) (fun g R=>u7 N s f g.1 g.2=some o∧True) (fun g=>g.1) (N,0) prm ⟨a,trivial⟩ ?_))))));clear a;rintro⟨m,d⟩ y H h ⟨a,_⟩
 rcases m with _|m;exact j5 a;replace a:u7 N s f (m+1) d=some o:=a;rw [u7] at a;refine zx (zi (jo rfl rfl) (z8 (zq (qa rfl a (fun a=>?_) (fun a=>?_)))))
 refine qd (zq (q9 (zx (zw (vi d) (zo (vi d) (jc (zw e (zw c (zw (vi d) ?_)))))))));obtain⟨l,a⟩:=ze a;refine bz (i:=d.toNat) rfl znb rfl (jv (k.mono h)) (zb rfl l.1) (zm l) fun z p=>?_;refine jl rfl zla rfl p fun B q=>?_;obtain rfl:=z1d.1 q
 obtain⟨C,t,a⟩:=zn a;refine zs8 rfl rfl rfl ((n.mono h) _ (RH.le.refl _) (ix s d) _ _ (z1d.2 rfl) t) fun E F j u=>?_;obtain rfl:=p8.1 u;refine z8 (qa rfl a (fun a=>?_) (fun a=>?_));refine zx (zw (vi d) (zo (vi d) (z8 (qx ?_))));replace b:=z3d a b;obtain rfl:=Option.some.inj b
 refine qh (D:=[]) (J:=[]) (rs:=[.tmp 4]) (vs:=[(vi d)]) (h.trans j) rfl rfl ⟨rfl,trivial⟩ ?_;exact⟨rfl,rfl⟩;refine qd (zh ?_);obtain⟨w,a⟩:=ze a;refine zi (jr rfl rfl w) (zw (vi (d+1)) (z8 ?_));exact⟨dkt,j,kg,(m,d+1),Nat.lt_succ_self _,⟨rfl,trivial⟩,prm,a,trivial⟩;refine jy ?_
 exact⟨dkt,h,kg,(),trivial,prm,(Option.some.inj a).symm,trivial⟩;rintro I G K x ⟨rfl,_⟩;replace b:=z1j b;refine zx (zo (vi (-1)) (z8 (qx ?_)));obtain rfl:=Option.some.inj b;refine qh (D:=[]) (J:=[]) (rs:=[.tmp 4]) (vs:=[(vi (-1))]) x rfl rfl ⟨rfl,trivial⟩ ?_;exact⟨rfl,rfl⟩
theorem zzl:Enters prog 88:=enters_of func88 rfl (by kernel_rfl)
theorem z5l{N:Nat}{R:RH}{s:(List Edge)}{a:Value}(d:VRep (tSl false kEdge) R a s){f:Edge→Option Bool}{b:Value}(e:FOk1 prog R b kEdge dm f){r:Bool}(c:gy N s f=some r):CallP prog 82 #[a,b] R (fun v R'=>v=(.bool r)):=by
 refine qy (args:=[a,b]) func82 rfl rfl fun A=>?_;rw [gy] at c;refine zx (zo (.bool false) (jc (zw a (zw b ?_))));obtain⟨h,i,c⟩:=zn c;refine jd rfl zzl rfl (z6k d e i) fun k l g j=>?_;obtain rfl:=j
 refine zi (zbf rfl rfl) (zo (.bool (decide (0≤h))) (z8 (qx ?_)));obtain rfl:=Option.some.inj c;refine qh (D:=[]) (J:=[]) (rs:=[.tmp 4]) (vs:=[(.bool (decide (0≤h)))]) g rfl rfl ⟨rfl,trivial⟩ ?_;exact⟨rfl,rfl⟩
theorem zzx:Enters prog 82:=enters_of func82 rfl (by kernel_rfl)
theorem zev{N:Nat}{R:RH}  {r:Edge} (a:z8d N  =some r):CallP prog 89 #[] R (fun v R'=>v=(z3f r)):=by
 refine qy (args:=[]) func89 rfl rfl fun A=>?_;rw [z8d] at a;refine zx (j3 rfl zuh fun b=>?_)
 refine jc (zi (jg (ps:=[(0,(vi (-1))),(1,(vi (-1)))]) (v:=(.agg #[(vi (-1)),(vi (-1))])) rfl (fun w=>by kernel_rfl)) (qf (i:=0) (vs:=[(vi (-1)),(vi (-1))]) zlm rfl rfl rfl rfl rfl rfl (zz rfl (zz rfl qm)) ?_));refine z8 (qx ?_);obtain rfl:=Option.some.inj a
 refine qh (D:=[]) (J:=[box b [(vi (-1)),(vi (-1))] 53]) (rs:=[.cell 0 53]) (vs:=[(.agg #[(vi (-1)),(vi (-1))])]) (RH.le.refl _) rfl rfl ⟨⟨_,rfl,fun w c=>z6o (i:=0) c rfl rfl zyo zlm rfl rfl⟩,trivial⟩ ?_;exact⟨rfl,rfl⟩
theorem zzy:Enters prog 89:=enters_of func89 rfl (by kernel_rfl)
theorem zxo:zox prog 53:=zk2 (f0:=((prog.fieldsOf 53).toList.getD 0 default)) (f1:=((prog.fieldsOf 53).toList.getD 1 default)) (by kernel_rfl) (by kernel_rfl) (by kernel_rfl) (by kernel_rfl) (by kernel_rfl) (by kernel_rfl) (by kernel_rfl) (by kernel_rfl) (by kernel_rfl) (by kernel_rfl)
theorem zex{N:Nat}{R:RH}{m:Mach}{p:Value}(w:VRep (jm false false) R p m){x:Edge}{r:Bool}(n:z8c N m x=some r):CallP prog 84 #[p,(z3f x)] R (fun v R'=>v=(.bool r)):=by
 refine qy (args:=[p,(z3f x)]) func84 rfl rfl fun A=>?_;rw [z8c] at n;refine zx (dh (T:=(jm false false)) rfl rfl rfl w fun v1 R3 y h5 K=>?_);refine z6l (T:=kEdge) rfl rfl (z1d.2 rfl) fun v6 R8 q t=>?_;refine zo (.bool false) (z8 (zq ?_));obtain⟨b,z,n⟩:=zn n
 let B:=((decide (x.to=b.to∧x.out=b.out))||((((decide (0≤x.to))&&(decide (x.to<(↑m.rows.length:Int))))&&(decide (0≤x.out)))&&(decide (x.out<m.outputs))));let L:=((((decide (0≤x.to))&&(decide (x.to<(↑m.rows.length:Int))))&&(decide (0≤x.out)))&&(decide (x.out<m.outputs)))
 let o:=(((decide (0≤x.to))&&(decide (x.to<(↑m.rows.length:Int))))&&(decide (0≤x.out)));let k:=((decide (0≤x.to))&&(decide (x.to<(↑m.rows.length:Int))));let e:=(true&&((decide (x.to=b.to∧x.out=b.out))==false))
 refine z03 29 [] [phX (z3f x),phX (z3f b),phX (.bool (decide (x.to=b.to∧x.out=b.out))),phX (.bool (decide (x.to=b.to∧x.out=b.out))),phG e (phP (qb .i64) x.to),phG e (phX (vi x.to)),phG e (phX (.bool (decide (0≤x.to)))),phG e (phX (.bool (decide (0≤x.to)))),phG (e&&((decide (0≤x.to))==true)) (phP (qb .i64) x.to),phG (e&&((decide (0≤x.to))==true)) (phX (vi x.to)),phG (e&&((decide (0≤x.to))==true)) (phP (tSl false (tSl false kEdge)) m.rows),phG (e&&((decide (0≤x.to))==true)) (phR (tSl false (tSl false kEdge)) m.rows),phG (e&&((decide (0≤x.to))==true)) (phX (vi (↑m.rows.length:Int))),phG (e&&((decide (0≤x.to))==true)) (phX (.bool (decide (x.to<(↑m.rows.length:Int))))),phG e (phX (.bool k)),phG e (phX (.bool k)),phG (e&&(k==true)) (phP (qb .i64) x.out),phG (e&&(k==true)) (phX (vi x.out)),phG (e&&(k==true)) (phX (.bool (decide (0≤x.out)))),phG e (phX (.bool o)),phG e (phX (.bool o)),phG (e&&(o==true)) (phP (qb .i64) x.out),phG (e&&(o==true)) (phX (vi x.out)),phG (e&&(o==true)) (phP (qb .i64) m.outputs),phG (e&&(o==true)) (phX (vi m.outputs)),phG (e&&(o==true)) (phX (.bool (decide (x.out<m.outputs)))),phG e (phX (.bool L)),phX (.bool B),phX (.bool B)] mixed (by kernel_rfl) (ak ⟨zl,zl,zl,zl,(qw ax),(qw zl),(qw zl),(qw zl),(qw ax),(qw zl),(qw ax),(qw z0n),(qw zl),(qw zl),(qw zl),(qw zl),(qw ax),(qw zl),(qw zl),(qw zl),(qw zl),(qw ax),(qw zl),(qw ax),(qw zl),(qw zl),(qw zl),zl,zl,trivial⟩) ⟨?_,?_,?_,?_,?_,?_,?_,?_,?_,?_,?_,?_,?_,?_,?_,?_,?_,?_,?_,?_,?_,?_,?_,?_,?_,?_,?_,?_,?_,trivial⟩ fun aj u=>?_
 intro l al a g hd;exact zg rfl rfl rfl (ul (vg zla (g 3 rfl) (t.mono a)) (fun _ _ h=>z1d.1 h));intro l an a g hd;exact zg rfl rfl rfl (pg (vs:=[]) zzy rfl (zev  z) (fun _ _ h=>h));rintro l ao a g ⟨c,f,_⟩;exact zg rfl rfl rfl (zy (zr7 zxo (c rfl) (f rfl)));rintro l ap a g ⟨c,f,_⟩
 exact zg rfl rfl rfl (zy (zf (c rfl)));rintro l aq a g ⟨c,_⟩;exact zt (Gj:=true) (Bj:=decide (x.to=b.to∧x.out=b.out)) rfl rfl rfl (um (c rfl)) rfl (fun i d=>ah zcn zdt (g 3 rfl) (t.mono a));rintro l ar a g ⟨c,f,_⟩
 exact zt (Gj:=true) (Bj:=decide (x.to=b.to∧x.out=b.out)) rfl rfl rfl (um (f rfl)) rfl (fun i d=>ul (vg ty3 rfl ((c rfl).1 (zk rfl d))) (fun _ _ h=>ql.1 h));rintro l au a g ⟨c,f,_⟩
 exact zt (Gj:=true) (Bj:=decide (x.to=b.to∧x.out=b.out)) rfl rfl rfl (um (f rfl)) rfl (fun i d=>zy (zbf (show l 10=(vi x.to) from(c rfl).1 (zk rfl d)) rfl));rintro l av a g ⟨c,f,j,_⟩
 exact zt (Gj:=true) (Bj:=decide (x.to=b.to∧x.out=b.out)) rfl rfl rfl (um (f rfl)) rfl (fun i d=>zy (zf (show l 11=(.bool (decide (0≤x.to))) from(c rfl).1 (zk rfl d))));rintro l aw a g ⟨c,_⟩;exact zt (Gj:=e) (Bj:=decide (0≤x.to)) rfl rfl rfl (c rfl) rfl (fun i d=>ah zcn zdt (g 3 rfl) (t.mono a))
 rintro l ay a g ⟨c,f,_⟩;exact zt (Gj:=e) (Bj:=decide (0≤x.to)) rfl rfl rfl (f rfl) rfl (fun i d=>ul (vg ty3 rfl ((c rfl).1 (zk i d))) (fun _ _ h=>ql.1 h));rintro l M a g ⟨c,_⟩;exact zt (Gj:=e) (Bj:=decide (0≤x.to)) rfl rfl rfl (c rfl) rfl (fun i d=>ah xw yg (g 2 rfl) ((K.mono q).mono a))
 rintro l O a g ⟨c,f,_⟩;exact zt (Gj:=e) (Bj:=decide (0≤x.to)) rfl rfl rfl (f rfl) rfl (fun i d=>vg z3s rfl ((c rfl).1 (zk i d)));rintro l P a g ⟨c,f,_⟩;exact zt (Gj:=e) (Bj:=decide (0≤x.to)) rfl rfl rfl (f rfl) rfl (fun i d=>zy (ja rfl underlying25 rfl (jv ((c rfl).1 (zk i d)))))
 rintro l Q a g ⟨c,f,j,_⟩;exact zt (Gj:=e) (Bj:=decide (0≤x.to)) rfl rfl rfl (j rfl) rfl (fun i d=>zy (jo (show l 14=(vi x.to) from(c rfl).1 (zk i d)) (show l 17=(vi (↑m.rows.length:Int)) from(f rfl).1 (zk i d))));rintro l S a g ⟨c,f,j,_⟩
 exact zt (Gj:=true) (Bj:=decide (x.to=b.to∧x.out=b.out)) rfl rfl rfl (um (j rfl)) rfl (fun i d=>zy (yw (show l 12=(.bool (decide (0≤x.to))) from(c rfl).1 (zk rfl d)) (fun s=>(show l 18=(.bool (decide (x.to<(↑m.rows.length:Int)))) from(f rfl).1 (zk (zk rfl d) s))) rfl));rintro l U a g ⟨c,f,j,_⟩
 exact zt (Gj:=true) (Bj:=decide (x.to=b.to∧x.out=b.out)) rfl rfl rfl (um (j rfl)) rfl (fun i d=>zy (zf (show l 19=(.bool k) from(c rfl).1 (zk rfl d))));rintro l V a g ⟨c,_⟩
 exact zt (Gj:=e) (Bj:=(decide (0≤x.to))&&(decide (x.to<(↑m.rows.length:Int)))) rfl rfl rfl (c rfl) rfl (fun i d=>ah zsc zkn (g 3 rfl) (t.mono a));rintro l W a g ⟨c,f,_⟩
 exact zt (Gj:=e) (Bj:=(decide (0≤x.to))&&(decide (x.to<(↑m.rows.length:Int)))) rfl rfl rfl (f rfl) rfl (fun i d=>ul (vg ty3 rfl ((c rfl).1 (zk i d))) (fun _ _ h=>ql.1 h));rintro l X a g ⟨c,f,_⟩
 exact zt (Gj:=e) (Bj:=(decide (0≤x.to))&&(decide (x.to<(↑m.rows.length:Int)))) rfl rfl rfl (f rfl) rfl (fun i d=>zy (zbf (show l 22=(vi x.out) from(c rfl).1 (zk i d)) rfl));rintro l Y a g ⟨c,f,j,_⟩
 exact zt (Gj:=true) (Bj:=decide (x.to=b.to∧x.out=b.out)) rfl rfl rfl (um (j rfl)) rfl (fun i d=>zy (yw (show l 20=(.bool k) from(c rfl).1 (zk rfl d)) (fun s=>(show l 23=(.bool (decide (0≤x.out))) from(f rfl).1 (zk (zk rfl d) s))) rfl));rintro l Z a g ⟨c,f,j,_⟩
 exact zt (Gj:=true) (Bj:=decide (x.to=b.to∧x.out=b.out)) rfl rfl rfl (um (j rfl)) rfl (fun i d=>zy (zf (show l 24=(.bool o) from(c rfl).1 (zk rfl d))));rintro l aa a g ⟨c,_⟩;exact zt (Gj:=e) (Bj:=k&&(decide (0≤x.out))) rfl rfl rfl (c rfl) rfl (fun i d=>ah zsc zkn (g 3 rfl) (t.mono a))
 rintro l ab a g ⟨c,f,_⟩;exact zt (Gj:=e) (Bj:=k&&(decide (0≤x.out))) rfl rfl rfl (f rfl) rfl (fun i d=>ul (vg ty3 rfl ((c rfl).1 (zk i d))) (fun _ _ h=>ql.1 h));rintro l ac a g ⟨c,_⟩
 exact zt (Gj:=e) (Bj:=k&&(decide (0≤x.out))) rfl rfl rfl (c rfl) rfl (fun i d=>ah zga zac (g 2 rfl) ((K.mono q).mono a));rintro l ad a g ⟨c,f,_⟩;exact zt (Gj:=e) (Bj:=k&&(decide (0≤x.out))) rfl rfl rfl (f rfl) rfl (fun i d=>ul (vg ty3 rfl ((c rfl).1 (zk i d))) (fun _ _ h=>ql.1 h))
 rintro l ae a g ⟨c,f,j,_⟩;exact zt (Gj:=e) (Bj:=k&&(decide (0≤x.out))) rfl rfl rfl (j rfl) rfl (fun i d=>zy (jo (show l 27=(vi x.out) from(c rfl).1 (zk i d)) (show l 29=(vi m.outputs) from(f rfl).1 (zk i d))));rintro l af a g ⟨c,f,j,_⟩
 exact zt (Gj:=true) (Bj:=decide (x.to=b.to∧x.out=b.out)) rfl rfl rfl (um (j rfl)) rfl (fun i d=>zy (yw (show l 25=(.bool o) from(c rfl).1 (zk rfl d)) (fun s=>(show l 30=(.bool (decide (x.out<m.outputs))) from(f rfl).1 (zk (zk rfl d) s))) rfl));rintro l ag a g ⟨c,f,_⟩
 exact zg rfl rfl rfl (zy (eu (c rfl) rfl (fun s=>(show l 31=(.bool L) from(f rfl).1 (zk rfl s)))));rintro l ai a g ⟨c,f,j,d3,d4,d5,d6,d7,d8,d9,az,aA,aB,aC,aD,aE,aF,aG,aH,aI,aJ,aK,aL,aM,aN,aO,aP,aQ,aR,aS,_⟩;exact zg rfl rfl rfl (zy (z1q (c rfl)))
 intro aT C aU E aV F aW G aX aY aZ a0 a1 a2 a3 a4 a5 a6 a7 a8 a9 ba bb bc be bf bg bh bi bj bk bl bm bn bo bp bq br bs bt bu bv bw bx bz bA bB bC bD bE bF bG bH bI bJ H bK I;obtain rfl:=Eq.symm C;obtain rfl:=Eq.symm E;obtain rfl:=Eq.symm F;obtain rfl:=Eq.symm G;obtain rfl:=Eq.symm H;obtain rfl:=Eq.symm I
 refine z8 (qx ?_);obtain rfl:=Option.some.inj n;refine qh (D:=[]) (J:=[]) (rs:=[.tmp 4]) (vs:=[(.bool B)]) ((y.trans q).trans u) rfl rfl ⟨rfl,trivial⟩ ?_;exact⟨rfl,rfl⟩
theorem zzf:Enters prog 84:=enters_of func84 rfl (by kernel_rfl)
theorem zc4{N:Nat}{R:RH}{x:Edge}{p0_:Mach}{a:Value}(c:PRep (jm false false) R a p0_){r:Bool}(b:z5g N x p0_=some r):CallP prog 83 #[(z3f x),a] R (fun v R'=>v=(.bool r)):=by
 refine qy (args:=[(z3f x),a]) func83 rfl rfl fun A=>?_;rw [z5g] at b;refine zx (z6l (T:=kEdge) rfl rfl (z1d.2 rfl) fun n o d i=>?_);refine zo (.bool false) (jc (jl rfl z2m rfl (c.mono d) fun p j=>?_));refine jl rfl zla rfl i fun q k=>?_;obtain rfl:=z1d.1 k
 obtain⟨h,f,b⟩:=zn b;refine jd rfl zzf rfl (zex j f) fun l m e g=>?_;obtain rfl:=g;refine zi (af rfl) (zo (.bool (!h)) (z8 (qx ?_)));obtain rfl:=Option.some.inj b;refine qh (D:=[]) (J:=[]) (rs:=[.tmp 3]) (vs:=[(.bool (!h))]) (d.trans e) rfl rfl ⟨rfl,trivial⟩ ?_;exact⟨rfl,rfl⟩
theorem q0f:Enters prog 83:=enters_of func83 rfl (by kernel_rfl)
theorem zea{N:Nat}{R:RH}{m:Mach}{q:Value}(F:VRep (jm false false) R q m){r:Int}(b:z1h N m=some r):CallP prog 75 #[q] R (fun v R'=>v=(vi r)):=by
 refine qy (args:=[q]) func75 rfl rfl fun A=>?_;rw [z1h] at b;refine zx (dh (T:=(jm false false)) rfl rfl rfl F fun E R3 k h5 l=>?_);refine zo (vi 0) (z8 (zq (zx (zsa rfl (xx z4l z2q rfl l) fun v6 h7=>?_))))
 refine jf rfl (xz (jk ty3 rfl h7)) (jf rfl (rz rfl rfl) (jf (v:=(.bool (decide (16<m.inputs)))) rfl (zf rfl) (qz rfl rfl rfl rfl (fun c=>xx zga zac rfl l) fun ak G=>?_)));refine qz rfl rfl rfl rfl (fun c=>qj (xz (jk ty3 rfl (G.1 (zk rfl c))))) fun al H=>?_
 refine qz rfl rfl rfl rfl (fun c=>qj (rz (H.1 (zk rfl c)) rfl)) fun am I=>?_;refine jf rfl (eu rfl rfl (fun n=>(I.1 (zk rfl n)))) (jf (v:=(.bool ((decide (16<m.inputs))||(decide (16<m.outputs))))) rfl (zf rfl) (qz rfl rfl rfl rfl (fun c=>xx xw yg rfl l) fun an K=>?_))
 refine qz rfl rfl rfl rfl (fun c=>jk z3s rfl (K.1 (zk rfl c))) fun ao L=>?_;refine qz rfl rfl rfl rfl (fun c=>qj (ja rfl underlying25 rfl (jv (L.1 (zk rfl c))))) fun ap M=>?_;refine qz rfl rfl rfl rfl (fun c=>qj (rz (M.1 (zk rfl c)) rfl)) fun aq O=>?_
 refine jf rfl (eu rfl rfl (fun n=>(O.1 (zk rfl n)))) (z8 (qa rfl b (fun b=>?_) (fun b=>?_)));refine zx (zo (vi 3) (z8 (qx ?_)));obtain rfl:=Option.some.inj b;refine qh (D:=[]) (J:=[]) (rs:=[.tmp 2]) (vs:=[(vi 3)]) k rfl rfl ⟨rfl,trivial⟩ ?_;exact⟨rfl,rfl⟩
 refine qd (zq (zx (zsa rfl (xx z4l z2q rfl l) fun ar P=>?_)));refine jf rfl (xz (jk ty3 rfl P)) (jf rfl (jo rfl rfl) (jf (v:=(.bool (decide (m.inputs<1)))) rfl (zf rfl) (qz rfl rfl rfl rfl (fun c=>xx zga zac rfl l) fun au Q=>?_)))
 refine qz rfl rfl rfl rfl (fun c=>qj (xz (jk ty3 rfl (Q.1 (zk rfl c))))) fun av S=>?_;refine qz rfl rfl rfl rfl (fun c=>qj (jo (S.1 (zk rfl c)) rfl)) fun aw U=>?_
 refine jf rfl (eu rfl rfl (fun n=>(U.1 (zk rfl n)))) (jf (v:=(.bool ((decide (m.inputs<1))||(decide (m.outputs<1))))) rfl (zf rfl) (qz rfl rfl rfl rfl (fun c=>xx xw yg rfl l) fun ax V=>?_));refine qz rfl rfl rfl rfl (fun c=>jk z3s rfl (V.1 (zk rfl c))) fun ay W=>?_
 refine qz rfl rfl rfl rfl (fun c=>qj (ja rfl underlying25 rfl (jv (W.1 (zk rfl c))))) fun az X=>?_;refine qz rfl rfl rfl rfl (fun c=>qj (jo (X.1 (zk rfl c)) rfl)) fun aA Y=>?_;refine jf rfl (eu rfl rfl (fun n=>(Y.1 (zk rfl n)))) (z8 (qa rfl b (fun b=>?_) (fun b=>?_)))
 refine zx (zo (vi 1) (z8 (qx ?_)));obtain rfl:=Option.some.inj b;refine qh (D:=[]) (J:=[]) (rs:=[.tmp 2]) (vs:=[(vi 1)]) k rfl rfl ⟨rfl,trivial⟩ ?_;exact⟨rfl,rfl⟩;refine qd ?_;obtain⟨s,a,b⟩:=zn b;refine ji (γ:=Unit) (rs [2,3,4,5,33,51]) (fun g=>[]) (fun g=>[]++A) (fun g R=>s=Ex.go g∧True) ?_ ?_
 refine zx (vk rfl xw yg rfl l fun aB Z=>?_);refine jl rfl z3s rfl Z fun aC t=>?_
 refine zi (ja rfl underlying25 rfl (jv t)) (zw (vi 0) (z8 (q9 (uk (γ:=Nat×Int) (rs [2,3,4,5,36,51]) (fun g=>[(36,(vi g.2))]) (fun g=>[]++A) (fun g R=>bi N m g.1 g.2=some s∧True) (fun g=>g.1) (N,0) prm ⟨a,trivial⟩ ?_))));clear a;rintro⟨o,e⟩ ah aD d ⟨a,_⟩;rcases o with _|o
 exact j5 a;replace a:bi N m (o+1) e=some s:=a;rw [bi] at a;refine zx (zi (jo rfl rfl) (z8 (zq (qa rfl a (fun a=>?_) (fun a=>?_)))));refine qd (zq (q9 (zx ?_)));obtain⟨u,a⟩:=ze a
 refine bz (i:=e.toNat) rfl ze3 rfl (jv (t.mono d)) (zb rfl u.1) (zm u) fun aE aa=>?_;refine jl rfl zcy rfl aa fun p w=>?_;refine zo p (jc (jf (v:=p) rfl (zf rfl) (jf rfl (ja rfl underlying54 rfl (jv w)) (zsa rfl (xx z4l z2q rfl (l.mono d)) fun aF ab=>?_))))
 refine jf rfl (xz (jk ty3 rfl ab)) (jf rfl (yh rfl rfl) (jf (v:=(.bool (decide ((↑(ix m.rows e).length:Int)≠m.inputs)))) rfl (zf rfl) (qz rfl rfl rfl rfl (fun c=>qj (v:=p) (zf rfl)) fun aG ac=>?_)))
 refine qz rfl rfl rfl rfl (fun c=>qj (v:=(.func (.func 83) #[] #[E])) (z15 (fs:=[]) (cs:=[E]) rfl rfl)) fun aH ad=>?_;obtain⟨ae,af,a⟩:=zn a
 refine ol rfl rfl rfl rfl (fun c=>pg (vs:=[p,(.func (.func 83) #[] #[E])]) zzx (z09 (ac.1 (zk rfl c)) (z09 (ad.1 (zk rfl c)) rfl)) ((by have ag:=(lv af (zk rfl c));exact z5l w (zu4 (cs:=[E]) q0f fun R1 hq z0 u0 y k0 hy=>by obtain rfl:=z1d.1 k0;exact CallP.mono (zc4 ((l.mono d).mono hq) hy) fun v R2 _ hv=>p8.2 hv) ag)) (fun _ _ h=>h)) fun x z f j=>?_
 replace j:phG (true&&((decide ((↑(ix m.rows e).length:Int)≠m.inputs))==false)) (phX (.bool (ae.getD default))) x z:=j;refine jf rfl (eu rfl rfl (fun n=>(j.1 (zk rfl n)))) (z8 (qa rfl a (fun a=>?_) (fun a=>?_)));refine zx (zo (vi 1) (z8 (qx ?_)));replace b:=z3d a b;obtain rfl:=Option.some.inj b
 refine qh (D:=[]) (J:=[]) (rs:=[.tmp 2]) (vs:=[(vi 1)]) ((k.trans d).trans f) rfl rfl ⟨rfl,trivial⟩ ?_;exact⟨rfl,rfl⟩;refine qd (zh ?_);obtain⟨B,a⟩:=ze a;refine zi (jr rfl rfl B) (zw (vi (e+1)) (z8 ?_));exact⟨dkt,f,kg,(o,e+1),Nat.lt_succ_self _,⟨rfl,trivial⟩,prm,a,trivial⟩
 refine jy ?_;exact⟨dkt,d,kg,(),trivial,prm,(Option.some.inj a).symm,trivial⟩;rintro aM ai aN C ⟨rfl,_⟩;replace b:=z1j b;refine zx (zo (vi 0) (z8 (qx ?_)));obtain rfl:=Option.some.inj b;refine qh (D:=[]) (J:=[]) (rs:=[.tmp 2]) (vs:=[(vi 0)]) (k.trans C) rfl rfl ⟨rfl,trivial⟩ ?_;exact⟨rfl,rfl⟩
theorem q0b:Enters prog 75:=enters_of func75 rfl (by kernel_rfl)
theorem zug: ∀ w,∃ z,(zeroValue 88).run prog w= .ok z w∧z.cells=([.slice none 0 0]:List Value).toArray:=fun w=>⟨vs0,by kernel_rfl,rfl⟩
theorem zui: ∀ w,(sizeOf 88).run prog w= .ok 1 w:=fun w=>by kernel_rfl
theorem zz3: ∀ w,∃ z,(zeroValue 124).run prog w= .ok z w∧z.cells=([.nilFunc]:List Value).toArray:=fun w=>⟨.nilFunc,by kernel_rfl,rfl⟩
theorem zya: ∀ w,(sizeOf 124).run prog w= .ok 1 w:=fun w=>by kernel_rfl
theorem zvv: ∀ w,(isAgg 124).run prog w= .ok false w:=fun w=>by kernel_rfl
theorem zdp: ∀ w,(isAgg 88).run prog w= .ok false w:=fun w=>by kernel_rfl
theorem zyc:Enters prog 76:=enters_of func76 rfl (by kernel_rfl)
theorem z7h{N:Nat}(F:Nat): ∀ {R:RH} {s:Int} {a:Nat} {p0_:List Bool} {e:Value} {fAd:Frag} (f:ORep dm R fAd e p0_) {p1_:Mach} {d:Value} (k:PRep (jm false false) R d p1_) {b:Nat} {r:List Bool} (c:y7 N F s p0_ p1_=some r),CallG prog 76 #[(vi s),(.pointer (some ⟨a,0,none⟩)),d,(.pointer (some ⟨b,0,none⟩))] R [box a [e] 88,fAd,box b [.func (.func 76) #[] #[(.pointer (some ⟨a,0,none⟩)),d,(.pointer (some ⟨b,0,none⟩))]] 124] (fun v R' O'=> ∃ l m,v= .tuple #[]∧O'=[box a [l] 88,m,box b [.func (.func 76) #[] #[(.pointer (some ⟨a,0,none⟩)),d,(.pointer (some ⟨b,0,none⟩))]] 124]∧ORep dm R' m l r):=by
  induction F with
  |zero=>intros;rename_i c;exact j5 c
  |succ F ih=>
    intro R s a p0_ e fAd f p1_ d k b r c
    refine ng (args:=[(vi s),(.pointer (some ⟨a,0,none⟩)),d,(.pointer (some ⟨b,0,none⟩))]) func76 rfl rfl fun A=>?_
    rw [y7] at c
    refine zq ?_
    refine zq ?_
    refine zh ?_
    refine jf (v:=(vi s)) rfl (zf rfl) ?_
    refine jf rfl (bg rfl rfl) ?_
    refine jf (v:=(.bool (decide (s=(-1))))) rfl (zf rfl) ?_
    refine qz rfl rfl rfl rfl (fun o=>qj (v:=e) (za (i:=0) zdp rfl rfl rfl)) fun v7 h8=>?_
    refine qz rfl rfl rfl rfl (fun o=>qj (v:=(vi s)) (zf rfl)) fun v9 G=>?_
    obtain⟨q,c⟩:=ze c
    refine qz rfl rfl rfl rfl (fun o=>z1z (i:=s.toNat) zcd (h8.1 (zk rfl o)) f (zb (G.1 (zk rfl o)) (q (zk rfl o)).1) (zm (q (zk rfl o)))) fun af H=>?_
    refine qz rfl rfl rfl rfl (fun o=>qj (zv1 (zcv (i:=s.toNat) (j:=1) ty4 f rfl rfl (H.1 (zk rfl o)) (zm (q (zk rfl o)))))) fun ag I=>?_
    refine jf rfl (eu rfl rfl (fun hb=>(I.1 (zk rfl hb)))) ?_
    refine z8 ?_
    refine qa rfl c (fun c=>?_) (fun c=>?_)
    · refine qx ?_
      obtain rfl:=Option.some.inj c
      refine df (D:=[]) (J:=[]) (O':=[box a [e] 88,fAd,box b [(.func (.func 76) #[] #[(.pointer (some ⟨a,0,none⟩)),d,(.pointer (some ⟨b,0,none⟩))])] 124]) (rs:=[]) (vs:=[]) (RH.le.refl _) ((pk 0 rfl (pk 0 rfl (pk 0 rfl (List.Perm.refl _))))) rfl trivial ?_
      exact⟨e,fAd,rfl,rfl,f⟩
    · refine qd ?_
      refine zq ?_
      refine zh ?_
      refine zi (za (i:=0) zdp rfl rfl rfl) ?_
      refine zw (vi s) ?_
      obtain⟨t,c⟩:=ze c
      refine ww (i:=s.toNat) rfl zcd rfl f (zb rfl t.1) (zm t) fun ai K=>?_
      refine aj (i:=s.toNat) (j:=1) ty4 f rfl rfl K (zm t) rfl (p8.2 rfl) fun L M=>?_
      refine z8 ?_
      refine zq ?_
      refine zh ?_
      refine vk rfl xw yg rfl k fun ak O=>?_
      refine jl rfl z3s rfl O fun al P=>?_
      refine zw (vi s) ?_
      obtain⟨x,c⟩:=ze c
      refine bz (i:=s.toNat) rfl ze3 rfl (jv P) (zb rfl x.1) (zm x) fun am Q=>?_
      refine jl rfl zcy rfl Q fun an y=>?_
      refine zi (ja rfl underlying54 rfl (jv y)) ?_
      refine zw (vi 0) ?_
      refine z8 ?_
      refine q9 ?_
      refine uk (γ:=Nat×Int×(List Bool)×Value×Frag) (rs [6,7,24,33]) (fun g=>[(24,(vi g.2.1))]) (fun g=>[box b [(.func (.func 76) #[] #[(.pointer (some ⟨a,0,none⟩)),d,(.pointer (some ⟨b,0,none⟩))])] 124,box a [g.2.2.2.1] 88,g.2.2.2.2]++A) (fun g R=>yn N (y7 N F) s p1_ g.1 g.2.1 g.2.2.1=some r∧ORep dm R g.2.2.2.2 g.2.2.2.1 g.2.2.1∧True) (fun g=>g.1) (N,0,(up p0_ s true),e,L) ⟨[],(pk 2 rfl (pk 0 rfl (pk 0 rfl (List.Perm.refl _))))⟩ ⟨c,M,trivial⟩ ?_
      clear c
      rintro⟨p,h,S,u,w⟩ ao ap n ⟨c,z,_⟩
      rcases p with _|p
      · exact j5 c
      replace c:yn N (y7 N F) s p1_ (p+1) h S=some r:=c;rw [yn] at c
      refine zq ?_
      refine zh ?_
      refine zi (jo rfl rfl) ?_
      refine z8 ?_
      refine zq ?_
      refine qa rfl c (fun c=>?_) (fun c=>?_)
      · refine qd ?_
        refine zq ?_
        refine q9 ?_
        refine zq ?_
        refine zh ?_
        obtain⟨B,c⟩:=ze c
        refine bz (i:=h.toNat) rfl znb rfl (jv (y.mono n)) (zb rfl B.1) (zm B) fun aq T=>?_
        refine jl rfl zla rfl T fun ar U=>?_
        obtain rfl:=z1d.1 U
        refine j3 rfl zuh fun C=>?_
        refine qf (i:=0) (vs:=[(vi ((ix (ix p1_.rows s) h).to)),(vi ((ix (ix p1_.rows s) h).out))]) zlm rfl rfl rfl rfl rfl rfl (zz rfl (zz rfl qm)) ?_
        refine z8 ?_
        refine zh ?_
        refine zi (za (i:=1) zvv rfl rfl rfl) ?_
        refine zi (qc zcn rfl) ?_
        refine zi (za (i:=0) ag3 rfl rfl rfl) ?_
        obtain⟨V,W,c⟩:=zn c
        refine aa (Oc:=[box a [u] 88,w,box b [(.func (.func 76) #[] #[(.pointer (some ⟨a,0,none⟩)),d,(.pointer (some ⟨b,0,none⟩))])] 124]) (Or:=[box C [(vi ((ix (ix p1_.rows s) h).to)),(vi ((ix (ix p1_.rows s) h).out))] 53]++A) (cs:=[(.pointer (some ⟨a,0,none⟩)),d,(.pointer (some ⟨b,0,none⟩))]) (vs:=[(vi ((ix (ix p1_.rows s) h).to))]) rfl zyc rfl rfl ((pk 2 rfl (pk 2 rfl (pk 1 rfl (pk 0 rfl (List.Perm.refl _)))))) (ih z (k.mono n) W) fun au av ad E X=>?_
        obtain⟨Y,Z,rfl,rfl,ab⟩:=X
        refine z8 ?_
        refine zh ?_
        obtain⟨ac,c⟩:=ze c
        refine zi (jr rfl rfl ac) ?_
        refine zw (vi (h+1)) ?_
        refine z8 ?_
        exact⟨dkt,E,kg,(p,h+1,V,Y,Z),Nat.lt_succ_self _,⟨rfl,trivial⟩,⟨[box C [(vi ((ix (ix p1_.rows s) h).to)),(vi ((ix (ix p1_.rows s) h).out))] 53],(pk 3 rfl (pk 2 rfl (pk 0 rfl (pk 0 rfl (List.Perm.refl _)))))⟩,c,ab,trivial⟩
      · refine jy ?_
        show za0 _ _ _ _ _ .ret _ [] _ _
        obtain rfl:=Option.some.inj c
        refine df (D:=[]) (J:=[]) (O':=[box a [u] 88,w,box b [(.func (.func 76) #[] #[(.pointer (some ⟨a,0,none⟩)),d,(.pointer (some ⟨b,0,none⟩))])] 124]) (rs:=[]) (vs:=[]) n ((pk 1 rfl (pk 1 rfl (pk 0 rfl (List.Perm.refl _))))) rfl trivial ?_
        exact⟨u,w,rfl,rfl,z⟩
theorem z9d{N:Nat}{R:RH}{s:Int}{a:Nat}{p0_:List Bool}{d:Value}{fAd:Frag}(g:ORep dm R fAd d p0_){p1_:Mach}{c:Value}(h:PRep (jm false false) R c p1_){b:Nat}{r:List Bool}(i:y7 N N s p0_ p1_=some r):CallG prog 76 #[(vi s),(.pointer (some ⟨a,0,none⟩)),c,(.pointer (some ⟨b,0,none⟩))] R [box a [d] 88,fAd,box b [.func (.func 76) #[] #[(.pointer (some ⟨a,0,none⟩)),c,(.pointer (some ⟨b,0,none⟩))]] 124] (fun v R' O'=> ∃ e f,v= .tuple #[]∧O'=[box a [e] 88,f,box b [.func (.func 76) #[] #[(.pointer (some ⟨a,0,none⟩)),c,(.pointer (some ⟨b,0,none⟩))]] 124]∧ORep dm R' f e r):=z7h N g h i
theorem zbp{N:Nat}{R:RH}{s:(List Bool)}{c:Value}(h:VRep (tSl false dm) R c s){f:Bool}{r:Int}(b:z0t N s f=some r):CallP prog 85 #[c,(.bool f)] R (fun v R'=>v=(vi r)):=by
 refine qy (args:=[c,(.bool f)]) func85 rfl rfl fun A=>?_;rw [z0t] at b;refine zx (zo (vi 0) (z8 ?_));obtain⟨l,a,b⟩:=zn b;refine ji (γ:=Unit) (rs [4,19]) (fun g=>[]) (fun g=>[]++A) (fun g R=>l=Ex.go g∧True) ?_ ?_
 refine zx (zw c (zi (ja rfl underlying88 rfl (jv h)) (zw (vi 0) (z8 (q9 (uk (γ:=Nat×Int) (rs [4,6,8,19]) (fun g=>[(8,(vi g.2))]) (fun g=>[]++A) (fun g R=>yu N s f g.1 g.2=some l∧True) (fun g=>g.1) (N,0) prm ⟨a,trivial⟩ ?_))))));clear a;rintro⟨k,d⟩ q x e ⟨a,_⟩;rcases k with _|k
 exact j5 a;replace a:yu N s f (k+1) d=some l:=a;rw [yu] at a;refine zx (zi (jo rfl rfl) (z8 (zq (qa rfl a (fun a=>?_) (fun a=>?_)))));refine qd (zq (q9 (zx (zw (vi d) (zo (vi d) (jc (zw (.bool f) (zw c (zw (vi d) ?_)))))))))
 obtain⟨j,a⟩:=ze a;refine bz (i:=d.toNat) rfl zcd rfl (jv (h.mono e)) (zb rfl j.1) (zm j) fun t m=>?_;refine jl rfl ty4 rfl m fun u n=>?_;obtain rfl:=p8.1 n;refine zi (zsh underlying4 rfl rfl) (z8 (qa rfl a (fun a=>?_) (fun a=>?_)))
 refine zx (zw (vi d) (zo (vi d) (z8 (qx ?_))));replace b:=z3d a b;obtain rfl:=Option.some.inj b;refine qh (D:=[]) (J:=[]) (rs:=[.tmp 4]) (vs:=[(vi d)]) e rfl rfl ⟨rfl,trivial⟩ ?_;exact⟨rfl,rfl⟩;refine qd (zh ?_);obtain⟨o,a⟩:=ze a
 refine zi (jr rfl rfl o) (zw (vi (d+1)) (z8 ?_));exact⟨dkt,(RH.le.refl _),kg,(k,d+1),Nat.lt_succ_self _,⟨rfl,trivial⟩,prm,a,trivial⟩;refine jy ?_;exact⟨dkt,e,kg,(),trivial,prm,(Option.some.inj a).symm,trivial⟩;rintro y w z p ⟨rfl,_⟩;replace b:=z1j b;refine zx (zo (vi (-1)) (z8 (qx ?_)))
 obtain rfl:=Option.some.inj b;refine qh (D:=[]) (J:=[]) (rs:=[.tmp 4]) (vs:=[(vi (-1))]) p rfl rfl ⟨rfl,trivial⟩ ?_;exact⟨rfl,rfl⟩
theorem zzq:Enters prog 85:=enters_of func85 rfl (by kernel_rfl)
theorem z96{N:Nat}{R:RH}{s:(List Bool)}{a:Value}(d:VRep (tSl false dm) R a s){c:Bool}{r:Bool}(b:l8 N s c=some r):CallP prog 77 #[a,(.bool c)] R (fun v R'=>v=(.bool r)):=by
 refine qy (args:=[a,(.bool c)]) func77 rfl rfl fun A=>?_;rw [l8] at b;refine zx (zo (.bool false) (jc (zw a (zw (.bool c) ?_))));obtain⟨f,g,b⟩:=zn b;refine jd rfl zzq rfl (zbp d g) fun i j e h=>?_;obtain rfl:=h
 refine zi (zbf rfl rfl) (zo (.bool (decide (0≤f))) (z8 (qx ?_)));obtain rfl:=Option.some.inj b;refine qh (D:=[]) (J:=[]) (rs:=[.tmp 4]) (vs:=[(.bool (decide (0≤f)))]) e rfl rfl ⟨rfl,trivial⟩ ?_;exact⟨rfl,rfl⟩
theorem zzg:Enters prog 77:=enters_of func77 rfl (by kernel_rfl)
theorem zao{N:Nat}{R:RH}{m:Mach}{h:Value}(j:VRep (jm false false) R h m){r:Bool×Int}(a:z0e N m=some r):CallP prog 63 #[h] R (fun v R'=>v= .tuple #[(.bool r.1),(vi r.2)]):=by
 refine qy (args:=[h]) func63 rfl rfl fun A=>?_;rw [z0e] at a;refine zx (dh (T:=(jm false false)) rfl rfl rfl j fun o Z f O L=>?_);refine zo (.bool false) (zo (vi 0) (z8 (zq (zx (zi (uj z2m rfl rfl O (j.mono f)) ?_)))));obtain⟨p,P,a⟩:=zn a
 refine jd rfl q0b rfl (zea (j.mono f) P) fun v8 Q e S=>?_;obtain rfl:=S;refine zo (vi p) (jc (zw (vi p) (zi (yh rfl rfl) (z8 (qa rfl a (fun a=>?_) (fun a=>?_))))));refine zx (zw (vi p) (zo (.bool false) (zo (vi p) (z8 (qx ?_)))));obtain rfl:=Option.some.inj a
 refine qh (D:=[]) (J:=[]) (rs:=[.tmp 2,.tmp 3]) (vs:=[(.bool false),(vi p)]) (f.trans e) rfl rfl ⟨rfl,rfl,trivial⟩ ?_;exact⟨rfl,rfl⟩;refine qd (zx (vk rfl xw yg rfl (L.mono e) fun U w=>?_));refine jl rfl z3s rfl w fun V x=>?_;refine zi (ja rfl underlying25 rfl (jv x)) ?_
 obtain⟨g,a⟩:=ze a;refine z3k (T:=dm) (m:=(↑m.rows.length:Int).toNat) (c:=(↑m.rows.length:Int).toNat) rfl underlying88 zo4 (zb rfl g.1) (zb rfl g.1) (Nat.le_refl _) (z3z g) (z4c g) fun q y z k=>?_;refine j3 rfl zug fun b=>?_
 refine qf (i:=0) (vs:=[q]) zui rfl rfl (kv k) rfl rfl rfl (zz (uf k) qm) ?_;refine jc (j3 rfl zz3 fun d=>?_)
 refine jc (zi (z15 (fs:=[]) (cs:=[(.pointer (some ⟨b,0,none⟩)),o,(.pointer (some ⟨d,0,none⟩))]) rfl rfl) (qf (i:=0) (vs:=[(.func (.func 76) #[] #[(.pointer (some ⟨b,0,none⟩)),o,(.pointer (some ⟨d,0,none⟩))])]) zya rfl rfl rfl rfl rfl rfl (zz rfl qm) ?_));refine jc (zi (za (i:=0) zvv rfl rfl rfl) ?_)
 obtain⟨B,C,a⟩:=zn a
 refine aa (Oc:=[box b [q] 88,y,box d [(.func (.func 76) #[] #[(.pointer (some ⟨b,0,none⟩)),o,(.pointer (some ⟨d,0,none⟩))])] 124]) (Or:=[]++A) (cs:=[(.pointer (some ⟨b,0,none⟩)),o,(.pointer (some ⟨d,0,none⟩))]) (vs:=[(vi 0)]) rfl zyc rfl rfl ((pk 1 rfl (pk 1 rfl (pk 0 rfl (List.Perm.refl _))))) (z9d k (L.mono e) C) fun W X M s E=>?_
 obtain⟨l,F,rfl,rfl,G⟩:=E;refine jc (zi (za (i:=0) zdp rfl rfl rfl) ?_);obtain⟨n,H,a⟩:=zn a;refine zb4 (cs:=[]) (vs:=[l,(.bool false)]) (φ:=fun v=>v=(.bool n)) rfl zzg rfl rfl (fun I t u=>z96 (z9p ((za1 1 rfl G t u):VRep (wy dm) I l B)) H) fun Y K=>?_;obtain rfl:=K
 refine zi (af rfl) (zo (.bool (!n)) (zo (vi 0) (z8 (qx ?_))));obtain rfl:=Option.some.inj a
 refine qh (D:=[]) (J:=[box b [l] 88,F,box d [(.func (.func 76) #[] #[(.pointer (some ⟨b,0,none⟩)),o,(.pointer (some ⟨d,0,none⟩))])] 124]) (rs:=[.tmp 2,.tmp 3]) (vs:=[(.bool (!n)),(vi 0)]) ((f.trans e).trans s) rfl rfl ⟨rfl,rfl,trivial⟩ ?_;exact⟨rfl,rfl⟩
theorem zzo:Enters prog 63:=enters_of func63 rfl (by kernel_rfl)
theorem z3e{N:Nat}{R:RH}{m:Mach}{e:Value}(f:VRep (jm false false) R e m){r:Int}(a:au N m=some r):CallP prog 35 #[e] R (fun v R'=>v=(vi r)):=by
 refine qy (args:=[e]) func35 rfl rfl fun A=>?_;rw [au] at a;refine zx (dh (T:=(jm false false)) rfl rfl rfl f fun s t c j u=>?_);refine zo (vi 0) (jc (zi (uj z2m rfl rfl j (f.mono c)) ?_));obtain⟨b,k,a⟩:=zn a
 refine jd rfl zzo rfl (zao (f.mono c) k) fun w l d n=>?_;obtain rfl:=n
 refine zw (.tuple #[(.bool b.1),(vi b.2)]) (zi (j6 rfl rfl) (zi (j6 rfl rfl) (zo (.bool b.1) (zo (vi b.2) (z8 (zq (zx (jf (v:=(vi b.2)) rfl (zf rfl) (jf rfl (bg rfl rfl) (jf (v:=(.bool (decide (b.2=0)))) rfl (zf rfl) (qz rfl rfl rfl rfl (fun i=>qj (v:=(.bool b.1)) (zf rfl)) fun o g=>?_)))))))))))
 refine qz rfl rfl rfl rfl (fun i=>qj (af (g.1 (zk rfl i)))) fun p h=>?_;refine jf rfl (yw rfl (fun q=>(h.1 (zk rfl q))) rfl) (z8 (qa rfl a (fun a=>?_) (fun a=>?_)));refine zx (zo (vi 11) (z8 (qx ?_)));obtain rfl:=Option.some.inj a
 refine qh (D:=[]) (J:=[]) (rs:=[.tmp 2]) (vs:=[(vi 11)]) (c.trans d) rfl rfl ⟨rfl,trivial⟩ ?_;exact⟨rfl,rfl⟩;refine qd (zx (zw (vi b.2) (zo (vi b.2) (z8 (qx ?_)))));obtain rfl:=Option.some.inj a;refine qh (D:=[]) (J:=[]) (rs:=[.tmp 2]) (vs:=[(vi b.2)]) (c.trans d) rfl rfl ⟨rfl,trivial⟩ ?_
 exact⟨rfl,rfl⟩
theorem zsu:Enters prog 35:=enters_of func35 rfl (by kernel_rfl)
theorem zzt{a:Bool}:ZeroOk prog 88 (tSl a dm) ([]:List Bool) 24:=by
 obtain⟨i,zv,hi,c,d,f,g⟩:=z0a (P:=prog) (e:=88) (zv:=vs0) (k:=1) (b:=24) (by kernel_rfl);exact⟨i,zv,hi,c,d,f,fun R=>by subst g;exact(kw rfl z0h)⟩
theorem zln: ∀ w,∃ z,(zeroValue 36).run prog w= .ok z w∧z.cells=([.slice none 0 0]:List Value).toArray:=fun w=>⟨vs0,by kernel_rfl,rfl⟩
theorem zct: ∀ w,(sizeOf 36).run prog w= .ok 1 w:=fun w=>by kernel_rfl
theorem z4d: ∀ w,(isAgg 36).run prog w= .ok false w:=fun w=>by kernel_rfl
theorem ru{N:Nat}{R:RH}{m:Mach}{a:Value}(f:VRep (jm false false) R a m){s:Int}{r:Mach×Int}(b:ym N m s=some r):CallP prog 47 #[a,(vi s)] R (fun v R'=> ∃ h i,v= .func (.func 66) #[] #[h,i]∧PRep (jm false false) R' h r.1∧PRep (qb .i64) R' i r.2):=by
 refine qy (args:=[a,(vi s)]) func47 rfl rfl fun A=>?_;rw [ym] at b;refine zx (dh (T:=(jm false false)) rfl rfl rfl f fun d l g n j=>?_);refine z6l (T:=(qb .i64)) rfl rfl (ql.2 rfl) fun e o c k=>?_
 refine zo .nilFunc (jc (zi (z15 (fs:=[]) (cs:=[d,e]) rfl rfl) (zo (.func (.func 66) #[] #[d,e]) (z8 (qx ?_)))));obtain rfl:=Option.some.inj b;refine qh (D:=[]) (J:=[]) (rs:=[.tmp 4]) (vs:=[(.func (.func 66) #[] #[d,e])]) (g.trans c) rfl rfl ⟨rfl,trivial⟩ ?_;exact⟨rfl,⟨d,e,rfl,(j.mono c),k⟩⟩
theorem zj8:Enters prog 47:=enters_of func47 rfl (by kernel_rfl)
theorem mf{N:Nat}{R:RH}{p0_:Mach}{f:Value}(u:PRep (jm false false) R f p0_){p1_:Int}{h:Value}(y:PRep (qb .i64) R h p1_):zrl prog 66 [f,h] R (fun(x:Sb) vs R=>vs=[(z3j x)])  (fun σ B s=>xu N p0_ p1_ σ B s):=by
 intro yv σ B I R1 O s0 U p W X c Y Z;refine ng (args:=[yv,f,h]) func66 rfl rfl fun A=>?_;dsimp only at c;rw [xu] at c;refine zx (vk rfl xw yg rfl (u.mono p) fun v1 h2=>?_);refine jl rfl z3s rfl h2 fun v3 h4=>?_;refine jl rfl ty3 rfl (y.mono p) fun v5 h6=>?_;obtain rfl:=ql.1 h6
 obtain⟨V,c⟩:=ze c;refine bz (i:=p1_.toNat) rfl ze3 rfl (jv h4) (zb rfl V.1) (zm V) fun v8 h9=>?_;refine jl rfl zcy rfl h9 fun ae E=>?_
 refine zi (ja rfl underlying54 rfl (jv E)) (zw (vi 0) (z8 (q9 (uk (γ:=Nat×σ×Int×(List Frag)) (rs [4,6,12,30]) (fun g=>[(12,(vi g.2.2.1))]) (fun g=>[]++(g.2.2.2++A)) (fun g R=>tq N σ B p0_ p1_ g.1 g.2.1 g.2.2.1=some U∧I g.2.1 R g.2.2.2∧True) (fun g=>g.1) (N,s0,0,O) prm ⟨c,X,trivial⟩ ?_))));clear c
 rintro⟨m,z,a,k⟩ ag ah j ⟨c,l,_⟩;rcases m with _|m;exact j5 c;replace c:tq N σ B p0_ p1_ (m+1) z a=some U:=c;rw [tq] at c;refine zx (zi (jo rfl rfl) (z8 (zq (qa rfl c (fun c=>?_) (fun c=>?_)))));refine qd ?_;obtain⟨L,e,c⟩:=zn c
 refine ji (γ:=σ×(List Frag)) (rs [4,6,14,29]) (fun g=>[]) (fun g=>[]++(g.2++A)) (fun g R=>L=Ex.go g.1∧I g.1 R g.2∧True) ?_ ?_;refine q9 (zx (zw (vi a) ?_));obtain⟨F,e⟩:=ze e;refine bz (i:=a.toNat) rfl znb rfl (jv (E.mono j)) (zb rfl F.1) (zm F) fun ai M=>?_
 refine jl rfl zla rfl M fun aj P=>?_;obtain rfl:=z1d.1 P;refine j3 rfl zuh fun n=>?_;refine zo (vi a) (qf (i:=0) (vs:=[(vi ((ix (ix p0_.rows p1_) a).to)),(vi ((ix (ix p0_.rows p1_) a).out))]) zlm rfl rfl rfl rfl rfl rfl (zz rfl (zz rfl qm)) ?_)
 refine jc (zi (qc zcn rfl) (zi (za (i:=0) ag3 rfl rfl rfl) (zi (yh rfl rfl) (zw (.bool (decide (((ix (ix p0_.rows p1_) a).to)≠(-1)))) (z8t (b:=decide (((ix (ix p0_.rows p1_) a).to)≠(-1))) (fun d=>?_) (fun d=>?_))))));replace e:=zie d e;refine z7c (s:=20) rfl rfl (congrArg Value.bool d) ?_
 refine zw yv (z7c (s:=20) rfl rfl (congrArg Value.bool d) ?_);refine zw (vi a) (z7c (s:=20) rfl rfl (congrArg Value.bool d) ?_);refine zi (qc zcn rfl) (z7c (s:=20) rfl rfl (congrArg Value.bool d) ?_);refine zi (za (i:=0) ag3 rfl rfl rfl) (z7c (s:=20) rfl rfl (congrArg Value.bool d) ?_)
 refine zi (jg (ps:=[(0,(vi a)),(1,(vi ((ix (ix p0_.rows p1_) a).to)))]) (v:=(.agg #[(vi a),(vi ((ix (ix p0_.rows p1_) a).to))])) rfl (fun w=>by kernel_rfl)) (z7c (s:=20) rfl rfl (congrArg Value.bool d) ?_);obtain⟨o,Q,e⟩:=zn e
 refine zdz (vs:=[(.agg #[(vi a),(vi ((ix (ix p0_.rows p1_) a).to))])]) (J:=[box n [(vi ((ix (ix p0_.rows p1_) a).to)),(vi ((ix (ix p0_.rows p1_) a).out))] 53]) (Oc:=k) (A:=A) rfl rfl rfl rfl (Y (⟨a,(ix (ix p0_.rows p1_) a).to⟩:Sb) z o.1 o.2 _ _ [(.agg #[(vi a),(vi ((ix (ix p0_.rows p1_) a).to))])] j rfl l Q) fun ak q r t=>?_
 refine z7c (s:=20) rfl rfl (congrArg Value.bool d) ?_;refine zi (af rfl) (zi (z8u (v:=(.bool (!o.1))) (congrArg Value.bool d) rfl) (z8 (qa rfl e (fun e=>?_) (fun e=>?_))));refine qx ?_;replace c:=z3d e c;obtain rfl:=Option.some.inj c
 refine df (D:=[]) (J:=[box n [(vi ((ix (ix p0_.rows p1_) a).to)),(vi ((ix (ix p0_.rows p1_) a).out))] 53]) (O':=q) (rs:=[]) (vs:=[]) (j.trans r) (List.Perm.refl _) rfl trivial ?_;exact t;refine qd ?_
 exact⟨dkt,r,kg,(o.2,q),trivial,⟨[box n [(vi ((ix (ix p0_.rows p1_) a).to)),(vi ((ix (ix p0_.rows p1_) a).out))] 53],(List.Perm.refl _)⟩,(Option.some.inj e).symm,t,trivial⟩;replace e:=zi7 d e;refine z6u (s:=20) rfl rfl (congrArg Value.bool d) rfl rfl ?_;refine z6u (s:=20) rfl rfl (congrArg Value.bool d) rfl rfl ?_
 refine z6u (s:=20) rfl rfl (congrArg Value.bool d) rfl rfl ?_;refine z6u (s:=20) rfl rfl (congrArg Value.bool d) rfl rfl ?_;refine z6u (s:=20) rfl rfl (congrArg Value.bool d) rfl rfl ?_;refine z6u (s:=20) rfl rfl (congrArg Value.bool d) rfl rfl ?_;refine z6u (s:=20) rfl rfl (congrArg Value.bool d) rfl rfl ?_
 refine zi (z8k (v:=(.bool false)) (congrArg Value.bool d) rfl) (z8 (zb9 rfl (fun C=>nomatch C) (fun C=>?_)));clear C;refine qd ?_;exact⟨dkt,(RH.le.refl _),kg,(z,k),trivial,⟨[box n [(vi ((ix (ix p0_.rows p1_) a).to)),(vi ((ix (ix p0_.rows p1_) a).out))] 53],(List.Perm.refl _)⟩,(Option.some.inj e).symm,l,trivial⟩
 rintro⟨S,G⟩ al am H ⟨rfl,K,_⟩;replace c:=z1j c;refine zh ?_;obtain⟨T,c⟩:=ze c;refine zi (jr rfl rfl T) (zw (vi (a+1)) (z8 ?_));exact⟨dkt,H,kg,(m,S,a+1,G),Nat.lt_succ_self _,⟨rfl,trivial⟩,prm,c,K,trivial⟩;refine jy ?_;show za0 _ _ _ _ _ .ret _ [] _ _;obtain rfl:=Option.some.inj c
 refine df (D:=[]) (J:=[]) (O':=k) (rs:=[]) (vs:=[]) j (List.Perm.refl _) rfl trivial ?_;exact l
theorem zj9:Enters prog 66:=enters_of func66 rfl (by kernel_rfl)
theorem zei: ∀ w,∃ z,(zeroValue 86).run prog w= .ok z w∧z.cells=([.int .i64 0,.int .i64 0]:List Value).toArray:=fun w=>⟨(.agg #[(vi 0),(vi 0)]),by kernel_rfl,rfl⟩
theorem zbn: ∀ w,(sizeOf 86).run prog w= .ok 2 w:=fun w=>by kernel_rfl
theorem z2s:FieldOk prog 86 1 1:=by
 obtain⟨i,hi,a⟩: ∃ i,prog.info? 3=some i∧i.size=1:=ky (by kernel_rfl);exact gq underlying86 rfl rfl hi (by rw [a];rfl)
theorem zhd{N:Nat}{R:RH}{m:Mach}{ad:Value}(ae:VRep (jm false false) R ad m){s:Int}{r:(List Bool)}(k:z5y N m s=some r):CallP prog 64 #[ad,(vi s)] R (fun v R'=>VRep (tSl true dm) R' v r):=by
 refine qy (args:=[ad,(vi s)]) func64 rfl rfl fun A=>?_;rw [z5y] at k;refine zx (dh (T:=(jm false false)) rfl rfl rfl ae fun v1 R3 ag h5 h2=>?_);refine zo vs0 (jc (vk rfl xw yg rfl h2 fun v6 h7=>?_));refine jl rfl z3s rfl h7 fun v8 h9=>?_;refine zi (ja rfl underlying25 rfl (jv h9)) ?_
 obtain⟨M,k⟩:=ze k;refine z3k (T:=dm) (m:=(↑m.rows.length:Int).toNat) (c:=(↑m.rows.length:Int).toNat) rfl underlying88 zo4 (zb rfl M.1) (zb rfl M.1) (Nat.le_refl _) (z3z M) (z4c M) fun d bB ah P=>?_;refine j3 rfl zug fun l=>?_
 refine qf (i:=0) (vs:=[d]) zui rfl rfl (kv P) rfl rfl rfl (zz (uf P) qm) ?_;refine jc (zi (za (i:=0) zdp rfl rfl rfl) (zw (vi s) ?_));obtain⟨ai,k⟩:=ze k;refine ww (i:=s.toNat) rfl zcd rfl P (zb rfl ai.1) (zm ai) fun bC aV=>?_
 refine aj (i:=s.toNat) (j:=1) ty4 P rfl rfl aV (zm ai) rfl (p8.2 rfl) fun aW aX=>?_;refine z8 ?_;obtain⟨C,a,k⟩:=zn k;refine z1u (γ:=(List Bool)×Frag) false (rs [6,9,16,52]) (fun g=>[]) (fun g=>[box l [d] 88,g.2]++A) (fun g R=>C=g.1∧ORep dm R g.2 d g.1∧capOf d=g.1.length∧True) ?_ ?_
 refine zx (zw (vi s) (pz (T:=(qb .i64)) (X:=([s]:List Int)) (ps:=[(0,(vi s))]) (css:=[[(vi s)]]) rfl underlying36 zo3 rfl rfl (jq ⟨rfl,trivial⟩) rfl rfl (by decide) fun ax aY aZ ak=>?_));refine j3 rfl zln fun a0=>?_
 refine qf (i:=0) (vs:=[ax]) zct rfl rfl (kv ak) rfl rfl rfl (zz (uf ak) qm) ?_
 refine z8 (q9 (z11 (γ:=Nat×(List Bool)×(List Int)×Frag×Value×Frag×Nat) false (rs [6,9,18,52]) (fun g=>[(6,(.pointer (some ⟨g.2.2.2.2.2.2,0,none⟩)))]) (fun g=>[box l [d] 88,g.2.2.2.1,g.2.2.2.2.2.1,box g.2.2.2.2.2.2 [g.2.2.2.2.1] 36]++A) (fun g R=>fq N m g.1 g.2.1 g.2.2.1=some C∧ORep dm R g.2.2.2.1 d g.2.1∧capOf d=g.2.1.length∧ORep (qb .i64) R g.2.2.2.2.2.1 g.2.2.2.2.1 g.2.2.1∧True) (fun g=>g.1) (N,(up (mk (↑m.rows.length:Int) false) s true),([s]:List Int),aW,ax,aY,a0) ⟨rfl,trivial⟩ ⟨[],(pk 2 rfl (pk 2 rfl (pk 1 rfl (pk 0 rfl (List.Perm.refl _)))))⟩ ⟨a,aX,((ah.trans List.length_replicate.symm).trans List.length_set.symm),ak,trivial⟩ (fun _=>rfl) ?_))
 clear a;rintro⟨Q,ay,n,al,am,an,t⟩ bi bj bD a1 y ⟨a,az,W,u,_⟩;rcases Q with _|Q;exact j5 a;replace a:fq N m (Q+1) ay n=some C:=a;rw [fq] at a
 refine zq (zx (zi (za (i:=3) z4d rfl rfl rfl) (zi (ow rfl underlying36 rfl u) (zi (rz rfl rfl) (z8 (qa rfl a (fun a=>?_) (fun a=>?_)))))));refine qd (zq (q9 (zx (zi (za (i:=3) z4d rfl rfl rfl) (zi (za (i:=3) z4d rfl rfl rfl) (zi (ow rfl underlying36 rfl u) ?_))))))
 obtain⟨a2,a⟩:=ze a;refine zi (z1s rfl rfl a2) ?_;obtain⟨ao,a⟩:=ze a;refine ww (i:=((↑n.length:Int)-1).toNat) rfl dz rfl u (zb rfl ao.1) (zm ao) fun bE a3=>?_;refine z1f (i:=((↑n.length:Int)-1).toNat) (j:=2) rfl ty3 u rfl rfl a3 (zm ao) fun bF a4=>?_;obtain rfl:=ql.1 a4
 refine zo (vi (ix n ((↑n.length:Int)-1))) (jc (zi (za (i:=3) z4d rfl rfl rfl) (zi (za (i:=3) z4d rfl rfl rfl) (zi (ow rfl underlying36 rfl u) ?_))));obtain⟨a5,a⟩:=ze a;refine zi (z1s rfl rfl a5) ?_;obtain⟨S,a⟩:=ze a
 refine zeb (v:=am) (lo:=(0:Int).toNat) (hi:=((↑n.length:Int)-1).toNat) (mx:=(capOf am)) rfl dz rfl u (.inl ⟨rfl,rfl⟩) (.inr ⟨_,congrArg some (zb rfl (zfq S))⟩) (.inl ⟨rfl,rfl⟩) (zlq S) (zbr S) (Nat.le_trans (zbr S) (zgh u)) (Nat.le_refl _) fun ap aq a6=>?_
 refine qf (i:=3) (vs:=[ap]) zct rfl rfl (kv aq) rfl rfl rfl (zz (uf aq) qm) ?_;refine jc (zi (uj z2m rfl rfl (h5.mono y) (ae.mono (ag.trans y))) (zw (vi (ix n ((↑n.length:Int)-1))) ?_));obtain⟨bG,a7,a⟩:=zn a
 refine jd rfl zj8 rfl (ru (ae.mono (ag.trans y)) a7) fun bH bI E a8=>?_;obtain⟨bJ,bK,rfl,a9,ba⟩:=a8;refine z8 (q9 ?_);obtain⟨aA,bb,a⟩:=zn a
 refine z1y (Oc:=[box l [d] 88,al,an,box t [ap] 36]) (Or:=A) _ (fun(s:List Bool×List Int) R O=> ∃ (o:Frag) (p:Value) (q:Frag),(∃ J,O.Perm (J++[box l [d] 88,o,box t [p] 36,q]))∧ORep dm R o d s.1∧capOf d=s.1.length∧ORep (qb .i64) R q p s.2∧True) (fun(s:List Bool×List Int) (c:Code) R O=>False) _ _ rfl zj9 (mf (N:=N) a9 ba) (List.Perm.refl _) (by decide) (by rintro _ _ _ rfl;rfl) (by rintro s R2 R3 O2 aB ⟨o,p,q,hJ,w,z,U,_⟩;exact⟨o,p,q,hJ,w.mono aB,z,U.mono aB,trivial⟩) (fun _ _ _ _ _ _ h=>h) (fun _ _ _ _ _ h=>h.elim) ⟨al,ap,an,⟨[],(pk 0 rfl (pk 0 rfl (pk 1 rfl (pk 0 rfl (List.Perm.refl _)))))⟩,(az.mono E),W,(aq.mono E),trivial⟩ bb ?_ ?_ ?_
 rintro b bc bL bM bk bN bl bm bn aD ⟨o,p,q,⟨_,hJ⟩,w,z,U,_⟩ Z bO;have f:=Z;clear Z;(try dsimp only at f);refine rf (oo hJ) ?_;obtain rfl:=aD;refine zh (j3 rfl zei fun F=>?_)
 refine qf (i:=0) (vs:=[(vi b.fA),(vi b.fB)]) zbn rfl rfl rfl rfl rfl rfl (zz rfl (zz rfl qm)) ?_;refine z8 ?_;refine⟨rfl,rfl,(RH.le.refl _),[box F [(vi b.fA),(vi b.fB)] 86,box l [d] 88,o,box t [p] 36,q],List.Perm.refl _,fun bP=>?_⟩
 refine q9 (zx (zi (za (i:=1) zdp rfl rfl rfl) (zi (qc z2s rfl) (zi (za (i:=0) ag3 rfl rfl rfl) ?_))));obtain⟨ar,f⟩:=ze f;refine ww (i:=b.fB.toNat) rfl zcd rfl w (zb rfl ar.1) (zm ar) fun bQ be=>?_;refine z1f (i:=b.fB.toNat) (j:=2) rfl ty4 w rfl rfl be (zm ar) fun bo aE=>?_
 obtain rfl:=p8.1 aE;refine zi (af rfl) (z8 (qa rfl f (fun f=>?_) (fun f=>?_)));refine zx (zi (za (i:=1) zdp rfl rfl rfl) (zi (qc z2s rfl) (zi (za (i:=0) ag3 rfl rfl rfl) ?_)));obtain⟨G,f⟩:=ze f;refine ww (i:=b.fB.toNat) rfl zcd rfl w (zb rfl G.1) (zm G) fun bp aF=>?_
 refine aj (i:=b.fB.toNat) (j:=2) ty4 w rfl rfl aF (zm G) rfl (p8.2 rfl) fun aa aG=>?_
 refine z8 (zh (zi (za (i:=3) z4d rfl rfl rfl) (zi (qc z2s rfl) (zi (za (i:=0) ag3 rfl rfl rfl) (pz (T:=(qb .i64)) (X:=([b.fB]:List Int)) (ps:=[(0,(vi b.fB))]) (css:=[[(vi b.fB)]]) rfl underlying36 zo3 rfl rfl (jq ⟨rfl,trivial⟩) rfl rfl (by decide) fun aH bq V aI=>?_)))))
 refine uw (i:=0) rfl aI fun aJ x aK=>?_;have aL:VRep (tSl true (qb .i64)) aJ aH ([b.fB]:List Int):=(z14 aK V);obtain⟨ab,f⟩:=ze f
 refine lq (i:=4) (X:=bc.2) (Y:=([b.fB]:List Int)) rfl underlying36 zo3 rfl rfl rfl (U.mono x) (jv (Sub.v (B:=(tSl false (qb .i64))) (ug Sub.refl (fun _=>rfl)) aL)) ab.1 ab.2 fun H ac I=>?_;refine qf (i:=3) (vs:=[H]) zct rfl rfl (kv I) rfl rfl rfl (zz (uf I) qm) ?_;refine z8 ?_
 obtain⟨rfl,rfl⟩:=Prod.mk.inj (Option.some.inj f);exact⟨rfl,x,[box F [(vi b.fA),(vi b.fB)] 86,box l [d] 88,aa,box t [H] 36,ac],List.Perm.refl _,rfl,⟨aa,H,ac,⟨[box F [(vi b.fA),(vi b.fB)] 86],(List.Perm.refl _)⟩,(aG.mono x),(z.trans List.length_set.symm),I,trivial⟩⟩;refine qd ?_
 obtain⟨rfl,rfl⟩:=Prod.mk.inj (Option.some.inj f);exact⟨rfl,(RH.le.refl _),[box F [(vi b.fA),(vi b.fB)] 86,box l [d] 88,o,box t [p] 36,q],List.Perm.refl _,rfl,⟨o,p,q,⟨[box F [(vi b.fA),(vi b.fB)] 86],(List.Perm.refl _)⟩,w,z,U,trivial⟩⟩
 rintro br bs bf au ⟨aM,K,aN,⟨_,hJ⟩,aO,av,L,_⟩;refine⟨_,_,hJ,?_⟩;refine zx (zi (za (i:=2) z4d rfl rfl rfl) (z8 (zh (j3 rfl zln fun aP=>?_))));refine qf (i:=0) (vs:=[K]) zct rfl rfl (kv L) rfl rfl rfl (zz (uf L) qm) ?_;refine z8 ?_
 exact⟨(fun e=>nomatch e),(E.trans au),kg,(Q,aA.1,aA.2,aM,K,aN,aP),Nat.lt_succ_self _,⟨rfl,trivial⟩,⟨[box t [K] 36],(pk 3 rfl (pk 1 rfl (pk 1 rfl (pk 1 rfl (pk 0 rfl (List.Perm.refl _))))))⟩,a,aO,av,L,trivial⟩;exact fun _ _ _ _ _ h=>h.elim;refine jy ?_
 exact⟨(fun e=>nomatch e),y,kg,(ay,al),trivial,⟨[an,box t [am] 36],(pk 2 rfl (pk 2 rfl (pk 0 rfl (pk 0 rfl (List.Perm.refl _)))))⟩,(Option.some.inj a).symm,az,W,trivial⟩;rintro⟨C,bR⟩ bt bu bS bg aQ ⟨rfl,bh,aR,_⟩;refine zx (zi (za (i:=0) zdp rfl rfl rfl) (zo d (z8 (z1c (i:=1) rfl bh fun aS aw aT=>?_))))
 have aU:VRep (tSl true dm) aS d C:=(z14 aT aR);refine qx ?_;obtain rfl:=Option.some.inj k;refine qh (D:=[]) (J:=[box l [d] 88]) (rs:=[.tmp 4]) (vs:=[d]) ((ag.trans aQ).trans aw) rfl rfl ⟨rfl,trivial⟩ ?_;exact⟨rfl,aU⟩
theorem zzu:Enters prog 64:=enters_of func64 rfl (by kernel_rfl)
theorem zvb{a:Bool}:TyOk prog 88 (tSl a dm):=by
 obtain⟨i,hi,b⟩: ∃ i,prog.info? 88=some i∧i.size=1:=ky (by kernel_rfl);exact z0k underlying88 hi rfl b
theorem zs4{a:Bool}:SlOk prog 113 88 (tSl a dm):=⟨underlying113,zvb⟩
theorem zbt{N:Nat}{R:RH}{m:Mach}{aa:Value}(ab:VRep (jm false false) R aa m){r:(List Int)}(w:z3x N m=some r):CallP prog 36 #[aa] R (fun v R'=>VRep (tSl true (qb .i64)) R' v r):=by
 refine qy (args:=[aa]) func36 rfl rfl fun A=>?_;rw [z3x] at w;refine zx (dh (T:=(jm false false)) rfl rfl rfl ab fun v1 R3 ac h5 h2=>?_);refine zo vs0 (jc (vk rfl xw yg rfl h2 fun v6 h7=>?_));refine jl rfl z3s rfl h7 fun v8 h9=>?_;refine zi (ja rfl underlying25 rfl (jv h9)) ?_
 obtain⟨M,w⟩:=ze w;refine z3k (T:=(tSl true dm)) (m:=(↑m.rows.length:Int).toNat) (c:=(↑m.rows.length:Int).toNat) rfl underlying113 zzt (zb rfl M.1) (zb rfl M.1) (Nat.le_refl _) (z3z M) (z4c M) fun s aX ad au=>?_;refine zo s (z8 ?_);obtain⟨d,e,w⟩:=zn w
 refine ji (γ:=(List (List Bool))×Frag) (rs [4,5,11,23]) (fun g=>[]) (fun g=>[g.2]++A) (fun g R=>d=g.1∧ORep (tSl true dm) R g.2 s g.1∧capOf s=g.1.length∧True) ?_ ?_
 refine zx (zw s (zi (ow rfl underlying113 rfl au) (zw (vi 0) (z8 (q9 (uk (γ:=Nat×Int×(List (List Bool))×Frag) (rs [4,5,13,23]) (fun g=>[(13,(vi g.2.1))]) (fun g=>[g.2.2.2]++A) (fun g R=>oz N m g.1 g.2.1 g.2.2.1=some d∧ORep (tSl true dm) R g.2.2.2 s g.2.2.1∧capOf s=g.2.2.1.length∧True) (fun g=>g.1) (N,0,(mk (↑m.rows.length:Int) ([]:List Bool)),aX) prm ⟨e,au,(ad.trans List.length_replicate.symm),trivial⟩ ?_))))))
 clear e;rintro⟨O,x,ae,aY⟩ ch ci F ⟨e,ag,W,_⟩;rcases O with _|O;exact j5 e;replace e:oz N m (O+1) x ae=some d:=e;rw [oz] at e;refine zx (zi (jo rfl rfl) (z8 (zq (qa rfl e (fun e=>?_) (fun e=>?_)))))
 refine qd (zq (q9 (zx (zw (vi x) (zo (vi x) (z8 (zh (zw s (zw (vi x) (zi (uj z2m rfl rfl (h5.mono F) (ab.mono (ac.trans F))) (zw (vi x) ?_)))))))))));obtain⟨aZ,a0,e⟩:=zn e;refine jd rfl zzu rfl (zhd (ab.mono (ac.trans F)) a0) fun cj ck G a1=>?_
 obtain⟨ah,e⟩:=ze e;refine ww (i:=x.toNat) rfl zs4 rfl (ag.mono G) (zb rfl ah.1) (zm ah) fun cl a2=>?_;refine aj (i:=x.toNat) (j:=0) zvb (ag.mono G) rfl rfl a2 (zm ah) rfl a1 fun ai a3=>?_;refine z8 (zh ?_);obtain⟨a4,e⟩:=ze e
 refine zi (jr rfl rfl a4) (zw (vi (x+1)) (z8 ?_));exact⟨dkt,G,kg,(O,x+1,(up ae x aZ),ai),Nat.lt_succ_self _,⟨rfl,trivial⟩,prm,e,a3,(W.trans List.length_set.symm),trivial⟩;refine jy ?_;exact⟨dkt,F,kg,(ae,aY),trivial,prm,(Option.some.inj e).symm,ag,W,trivial⟩;rintro⟨d,P⟩ cm cn X ⟨rfl,Q,bh,_⟩
 refine zx (vk rfl xw yg rfl (h2.mono X) fun co a5=>?_);refine jl rfl z3s rfl a5 fun cp a6=>?_;refine zi (ja rfl underlying25 rfl (jv a6)) ?_;obtain⟨S,w⟩:=ze w
 refine z3k (T:=(qb .i64)) (m:=(↑m.rows.length:Int).toNat) (c:=(↑m.rows.length:Int).toNat) rfl underlying36 zo3 (zb rfl S.1) (zb rfl S.1) (Nat.le_refl _) (z3z S) (z4c S) fun k a7 al av=>?_;refine zo k (z8 ?_);obtain⟨H,e,w⟩:=zn w
 refine ji (γ:=(List Int)×Frag) (rs [6,7,27,63]) (fun g=>[]) (fun g=>[g.2]++A) (fun g R=>H=g.1∧ORep (qb .i64) R g.2 k g.1∧capOf k=g.1.length∧True) ?_ ?_
 refine zx (zw k (zi (ow rfl underlying36 rfl av) (zw (vi 0) (z8 (q9 (uk (γ:=Nat×Int×(List Int)×Frag) (rs [6,7,29,63]) (fun g=>[(29,(vi g.2.1))]) (fun g=>[P,g.2.2.2]++A) (fun g R=>l9 N m d g.1 g.2.1 g.2.2.1=some H∧ORep (qb .i64) R g.2.2.2 k g.2.2.1∧capOf k=g.2.2.1.length∧True) (fun g=>g.1) (N,0,(mk (↑m.rows.length:Int) (0:Int)),a7) ⟨[],(pk 1 rfl (pk 0 rfl (List.Perm.refl _)))⟩ ⟨e,av,(al.trans List.length_replicate.symm),trivial⟩ ?_))))))
 clear e;rintro⟨U,a,am,aw⟩ bi cq C ⟨e,ay,Y,_⟩;rcases U with _|U;exact j5 e;replace e:l9 N m d (U+1) a am=some H:=e;rw [l9] at e;refine zx (zi (jo rfl rfl) (z8 (zq (qa rfl e (fun e=>?_) (fun e=>?_)))));refine qd ?_;obtain⟨I,n,e⟩:=zn e
 refine ji (γ:=(List Int)×Frag) (rs [6,7,31,62]) (fun g=>[]) (fun g=>[P,g.2]++A) (fun g R=>I=g.1∧ORep (qb .i64) R g.2 k g.1∧capOf k=g.1.length∧True) ?_ ?_
 refine q9 (zx (zw (vi a) (zo (vi a) (z8 (q9 (uk (γ:=Nat×(List Int)×Frag) (rs [32,62]) (fun g=>[]) (fun g=>[P,g.2.2]++A) (fun g R=>om N d a g.1 g.2.1=some I∧ORep (qb .i64) R g.2.2 k g.2.1∧capOf k=g.2.1.length∧True) (fun g=>g.1) (N,am,aw) prm ⟨n,ay,Y,trivial⟩ ?_))))));clear n
 rintro⟨V,b,a8⟩ bj cr E ⟨n,z,Z,_⟩;rcases V with _|V;exact j5 n;replace n:om N d a (V+1) b=some I:=n;rw [om] at n;refine zq (zq ?_);obtain⟨an,ao,az,ap,aq,aA,n⟩:=zz1 n
 refine z03 24 [] [phX s,phX (vi a),(fun u _=>lg (tSl true dm) s d u a.toNat),phR (tSl true dm) (ix d a),phX k,phX (vi a),(fun u _=>lg (qb .i64) k b u a.toNat),phX (vi (ix b a)),phP dm (ix (ix d a) (ix b a)),phX (.bool (ix (ix d a) (ix b a))),phX (.bool (!(ix (ix d a) (ix b a)))),phX (.bool (!(ix (ix d a) (ix b a)))),phG (true&&((!(ix (ix d a) (ix b a)))==false)) (phX s),phG (true&&((!(ix (ix d a) (ix b a)))==false)) (phX k),phG (true&&((!(ix (ix d a) (ix b a)))==false)) (phX (vi a)),phG (true&&((!(ix (ix d a) (ix b a)))==false)) ((fun u _=>lg (qb .i64) k b u a.toNat)),phG (true&&((!(ix (ix d a) (ix b a)))==false)) (phX (vi (ix b a))),phG (true&&((!(ix (ix d a) (ix b a)))==false)) ((fun u _=>lg (tSl true dm) s d u (ix b a).toNat)),phG (true&&((!(ix (ix d a) (ix b a)))==false)) (phR (tSl true dm) (ix d (ix b a))),phG (true&&((!(ix (ix d a) (ix b a)))==false)) (phX (vi a)),phG (true&&((!(ix (ix d a) (ix b a)))==false)) (phP dm (ix (ix d (ix b a)) a)),phG (true&&((!(ix (ix d a) (ix b a)))==false)) (phX (.bool (ix (ix d (ix b a)) a))),phG (true&&((!(ix (ix d a) (ix b a)))==false)) (phX (.bool (!(ix (ix d (ix b a)) a)))),phX (.bool ((!(ix (ix d a) (ix b a)))||(!(ix (ix d (ix b a)) a))))] mixed (by kernel_rfl) (ak ⟨zl,zl,(fun _ _ _ _ h=>h),z0n,zl,zl,(fun _ _ _ _ h=>h),zl,ax,zl,zl,zl,(qw zl),(qw zl),(qw zl),(qw (fun _ _ _ _ h=>h)),(qw zl),(qw (fun _ _ _ _ h=>h)),(qw z0n),(qw zl),(qw ax),(qw zl),(qw zl),zl,trivial⟩) ⟨?_,?_,?_,?_,?_,?_,?_,?_,?_,?_,?_,?_,?_,?_,?_,?_,?_,?_,?_,?_,?_,?_,?_,?_,trivial⟩ fun cs t=>?_
 intro l ct f p hd;exact zg rfl rfl rfl (zy (zf (p 3 rfl)));intro l cu f p hd;exact zg rfl rfl rfl (zy (zf (p 6 rfl)));rintro l cv f p ⟨o,y,_⟩;exact zg rfl rfl rfl (z00 (i:=a.toNat) zs4 (o rfl) ((Q.mono (C.trans E)).mono f) (zb (y rfl) an.1) (zm an));rintro l cw f p ⟨o,_⟩
 exact zg rfl rfl rfl (z8j (i:=a.toNat) (j:=0) zvb ((Q.mono (C.trans E)).mono f) rfl rfl (o rfl) (zm an));intro l cx f p hd;exact zg rfl rfl rfl (zy (zf (p 5 rfl)));intro l cy f p hd;exact zg rfl rfl rfl (zy (zf (p 6 rfl)));rintro l cz f p ⟨o,y,_⟩
 exact zg rfl rfl rfl (z00 (i:=a.toNat) dz (o rfl) (z.mono f) (zb (y rfl) ao.1) (zm ao));rintro l cA f p ⟨o,_⟩;exact zg rfl rfl rfl (ul (z8j (i:=a.toNat) (j:=1) ty3 (z.mono f) rfl rfl (o rfl) (zm ao)) (fun _ _ h=>ql.1 h));rintro l cB f p ⟨o,y,_⟩
 exact zg rfl rfl rfl (z2d (i:=(ix b a).toNat) zcd rfl (jv (o rfl)) (zb (y rfl) az.1) (zm az));rintro l cC f p ⟨o,_⟩;have ai:=o rfl;exact zg rfl rfl rfl (ul (vg ty4 rfl ai) (fun _ _ h=>p8.1 h));rintro l bk f p ⟨o,_⟩;exact zg rfl rfl rfl (zy (af (o rfl)));rintro l bl f p ⟨o,_⟩
 exact zg rfl rfl rfl (zy (zf (o rfl)));rintro l bm f p ⟨o,_⟩;exact zt (Gj:=true) (Bj:= !(ix (ix d a) (ix b a))) rfl rfl rfl (um (o rfl)) rfl (fun B q=>zy (zf (p 3 rfl)));rintro l bn f p ⟨o,_⟩
 exact zt (Gj:=true) (Bj:= !(ix (ix d a) (ix b a))) rfl rfl rfl (um (o rfl)) rfl (fun B q=>zy (zf (p 5 rfl)));rintro l bo f p ⟨o,_⟩;exact zt (Gj:=true) (Bj:= !(ix (ix d a) (ix b a))) rfl rfl rfl (um (o rfl)) rfl (fun B q=>zy (zf (p 6 rfl)));rintro l bp f p ⟨o,y,d2,_⟩
 exact zt (Gj:=true) (Bj:= !(ix (ix d a) (ix b a))) rfl rfl rfl (um (d2 rfl)) rfl (fun B q=>z00 (i:=a.toNat) dz (show l 45=k from(o rfl).1 (zk rfl q)) (z.mono f) (zb (show l 46=(vi a) from(y rfl).1 (zk rfl q)) (ap (zk B q)).1) (zm (ap (zk B q))));rintro l bq f p ⟨o,y,_⟩
 exact zt (Gj:=true) (Bj:= !(ix (ix d a) (ix b a))) rfl rfl rfl (um (y rfl)) rfl (fun B q=>ul (z8j (i:=a.toNat) (j:=1) ty3 (z.mono f) rfl rfl ((o rfl).1 (zk rfl q)) (zm (ap (zk B q)))) (fun _ _ h=>ql.1 h));rintro l br f p ⟨o,y,d2,_⟩
 exact zt (Gj:=true) (Bj:= !(ix (ix d a) (ix b a))) rfl rfl rfl (um (d2 rfl)) rfl (fun B q=>z00 (i:=(ix b a).toNat) zs4 (show l 44=s from(o rfl).1 (zk rfl q)) ((Q.mono (C.trans E)).mono f) (zb (show l 48=(vi (ix b a)) from(y rfl).1 (zk rfl q)) (aq (zk B q)).1) (zm (aq (zk B q))))
 rintro l bs f p ⟨o,y,_⟩;exact zt (Gj:=true) (Bj:= !(ix (ix d a) (ix b a))) rfl rfl rfl (um (y rfl)) rfl (fun B q=>z8j (i:=(ix b a).toNat) (j:=0) zvb ((Q.mono (C.trans E)).mono f) rfl rfl ((o rfl).1 (zk rfl q)) (zm (aq (zk B q))));rintro l bt f p ⟨o,_⟩
 exact zt (Gj:=true) (Bj:= !(ix (ix d a) (ix b a))) rfl rfl rfl (um (o rfl)) rfl (fun B q=>zy (zf (p 6 rfl)));rintro l bu f p ⟨o,y,d2,_⟩
 exact zt (Gj:=true) (Bj:= !(ix (ix d a) (ix b a))) rfl rfl rfl (um (d2 rfl)) rfl (fun B q=>z2d (i:=a.toNat) zcd rfl (jv ((o rfl).1 (zk rfl q))) (zb (show l 51=(vi a) from(y rfl).1 (zk rfl q)) (aA (zk B q)).1) (zm (aA (zk B q))));rintro l bv f p ⟨o,y,_⟩
 exact zt (Gj:=true) (Bj:= !(ix (ix d a) (ix b a))) rfl rfl rfl (um (y rfl)) rfl (fun B q=>ul (vg ty4 rfl ((o rfl).1 (zk rfl q))) (fun _ _ h=>p8.1 h));rintro l bw f p ⟨o,y,_⟩
 exact zt (Gj:=true) (Bj:= !(ix (ix d a) (ix b a))) rfl rfl rfl (um (y rfl)) rfl (fun B q=>zy (af (show l 53=(.bool (ix (ix d (ix b a)) a)) from(o rfl).1 (zk rfl q))));rintro l bx f p ⟨o,y,_⟩
 exact zg rfl rfl rfl (zy (eu (o rfl) rfl (fun hb=>(show l 54=(.bool (!(ix (ix d (ix b a)) a))) from(y rfl).1 (zk rfl hb)))));intro cE ba cF bb cG bz bA bB bC aC bD aD bE bF bG aE bH bI bJ aF bK aG bL aH bM bN bO bP bQ bR bS bT bU bV bW bX bY bZ b0 b1 b2 b3 b4 b5 b6 b7 b8 aI
 obtain rfl:=Eq.symm ba;obtain rfl:=Eq.symm bb;obtain rfl:=Eq.symm aC;obtain rfl:=Eq.symm aD;obtain rfl:=Eq.symm aE;obtain rfl:=Eq.symm aF;obtain rfl:=Eq.symm aG;obtain rfl:=Eq.symm aH;obtain rfl:=Eq.symm aI;refine z8 (qa rfl n (fun n=>?_) (fun n=>?_));refine qd (q9 (zh (zw k (zw (vi a) ?_))))
 obtain⟨K,n⟩:=ze n;refine ww (i:=a.toNat) rfl dz rfl (z.mono t) (zb rfl K.1) (zm K) fun b9 aJ=>?_;refine z1f (i:=a.toNat) (j:=1) rfl ty3 (z.mono t) rfl rfl aJ (zm K) fun ca aK=>?_;obtain rfl:=ql.1 aK;obtain⟨aL,n⟩:=ze n;refine zi (jr rfl rfl aL) ?_
 obtain⟨L,n⟩:=ze n;refine ww (i:=a.toNat) rfl dz rfl (z.mono t) (zb rfl L.1) (zm L) fun cb aM=>?_;refine aj (i:=a.toNat) (j:=1) ty3 (z.mono t) rfl rfl aM (zm L) rfl (ql.2 rfl) fun aN aO=>?_;refine z8 ?_
 exact⟨dkt,t,kg,(V,(up b a ((ix b a)+1)),aN),Nat.lt_succ_self _,trivial,prm,n,aO,(Z.trans List.length_set.symm),trivial⟩;refine jy ?_;exact⟨dkt,(E.trans t),kg,(b,a8),trivial,prm,(Option.some.inj n).symm,(z.mono t),Z,trivial⟩;rintro⟨I,bc⟩ cc cH aP ⟨rfl,be,aQ,_⟩;refine zh ?_
 obtain⟨aR,e⟩:=ze e;refine zi (jr rfl rfl aR) (zw (vi (a+1)) (z8 ?_));exact⟨dkt,aP,kg,(U,a+1,I,bc),Nat.lt_succ_self _,⟨rfl,trivial⟩,prm,e,be,aQ,trivial⟩;refine jy ?_;exact⟨dkt,C,kg,(am,aw),trivial,⟨[P],(List.Perm.refl _)⟩,(Option.some.inj e).symm,ay,Y,trivial⟩
 rintro⟨H,cI⟩ cd cJ aS ⟨rfl,bf,aT,_⟩;refine zx (zw k (zo k (z8 (z1c (i:=0) rfl bf fun aU ar aV=>?_))));have aW:VRep (tSl true (qb .i64)) aU k H:=(z14 aV aT);refine qx ?_;obtain rfl:=Option.some.inj w
 refine qh (D:=[]) (J:=[]) (rs:=[.tmp 2]) (vs:=[k]) (((ac.trans X).trans aS).trans ar) rfl rfl ⟨rfl,trivial⟩ ?_;exact⟨rfl,aW⟩
theorem zxn:Enters prog 36:=enters_of func36 rfl (by kernel_rfl)
theorem z7w{N:Nat}{R:RH}{s:(List Int)}{a:Value}(b:VRep (tSl false (qb .i64)) R a s){r:(List Int)}(c:z0r N s=some r):CallP prog 37 #[a] R (fun v R'=>VRep (tSl true (qb .i64)) R' v r):=by
 refine qy (args:=[a]) func37 rfl rfl fun A=>?_;rw [z0r] at c;refine zx (zo vs0 (jc (zw a (zw a (zi (ja rfl underlying36 rfl (jv b)) (zw a (zi (ja rfl underlying36 rfl (jv b)) ?_)))))));obtain⟨d,c⟩:=ze c
 refine zhv (v:=a) (lo:=(0:Int).toNat) (hi:=(↑s.length:Int).toNat) (mx:=(↑s.length:Int).toNat) rfl dz rfl (jv b) (.inl ⟨rfl,rfl⟩) (.inr ⟨_,congrArg some (zb rfl (zfq d))⟩) (.inr ⟨_,congrArg some (zb rfl (zfq d))⟩) (zlq d) (zbr d) (Nat.le_refl _) (Nat.le_trans (zbr d) (zy8 (jv b))) (X':=(cut s 0 (↑s.length:Int))) rfl fun f g e=>?_
 have h:VRep (tSl true (qb .i64)) R f (cut s 0 (↑s.length:Int)):=z14 g (e.trans (zol d).symm);refine zo f (z8 (qx ?_));obtain rfl:=Option.some.inj c;refine qh (D:=[]) (J:=[]) (rs:=[.tmp 2]) (vs:=[f]) (RH.le.refl _) rfl rfl ⟨rfl,trivial⟩ ?_;exact⟨rfl,h⟩
theorem zyl:Enters prog 37:=enters_of func37 rfl (by kernel_rfl)
theorem zc0{N:Nat}{R:RH}{s:(List (List Int))}{a:Value}(b:VRep (tSl false (tSl true (qb .i64))) R a s){r:(List (List Int))}(c:z5e N s=some r):CallP prog 38 #[a] R (fun v R'=>VRep (tSl true (tSl true (qb .i64))) R' v r):=by
 refine qy (args:=[a]) func38 rfl rfl fun A=>?_;rw [z5e] at c;refine zx (zo vs0 (jc (zw a (zw a (zi (ja rfl underlying30 rfl (jv b)) (zw a (zi (ja rfl underlying30 rfl (jv b)) ?_)))))));obtain⟨d,c⟩:=ze c
 refine zhv (v:=a) (lo:=(0:Int).toNat) (hi:=(↑s.length:Int).toNat) (mx:=(↑s.length:Int).toNat) rfl z7m rfl (jv b) (.inl ⟨rfl,rfl⟩) (.inr ⟨_,congrArg some (zb rfl (zfq d))⟩) (.inr ⟨_,congrArg some (zb rfl (zfq d))⟩) (zlq d) (zbr d) (Nat.le_refl _) (Nat.le_trans (zbr d) (zy8 (jv b))) (X':=(cut s 0 (↑s.length:Int))) rfl fun f g e=>?_
 have h:VRep (tSl true (tSl true (qb .i64))) R f (cut s 0 (↑s.length:Int)):=z14 g (e.trans (zol d).symm);refine zo f (z8 (qx ?_));obtain rfl:=Option.some.inj c;refine qh (D:=[]) (J:=[]) (rs:=[.tmp 2]) (vs:=[f]) (RH.le.refl _) rfl rfl ⟨rfl,trivial⟩ ?_;exact⟨rfl,h⟩
theorem q0e:Enters prog 38:=enters_of func38 rfl (by kernel_rfl)
theorem zbu{N:Nat}{R:RH}{m:Mach}{S:Value}(p:VRep (jm false false) R S m){r:(List (List Int))×Int}(d:z7r N m=some r):CallP prog 13 #[S] R (fun v R'=> ∃ u0,v= .tuple #[u0,(vi r.2)]∧VRep (tSl true (tSl true (qb .i64))) R' u0 r.1):=by
 refine qy (args:=[S]) func13 rfl rfl fun A=>?_;rw [z7r] at d;refine zx (dh (T:=(jm false false)) rfl rfl rfl p fun v1 R3 o h5 h2=>?_);refine zo vs0 (zo (vi 0) (z8 (zq (zx (zi (uj z2m rfl rfl h5 (p.mono o)) ?_)))));obtain⟨y6,c7,d⟩:=zn d
 refine jd rfl zsu rfl (z3e (p.mono o) c7) fun v8 bi j h9=>?_;obtain rfl:=h9;refine zo (vi y6) (jc (zw (vi y6) (zi (yh rfl rfl) (z8 (qa rfl d (fun d=>?_) (fun d=>?_))))));refine zx (zw (vi y6) (zo vs0 (zo (vi y6) (z8 (qx ?_)))));obtain rfl:=Option.some.inj d
 refine qh (D:=[]) (J:=[]) (rs:=[.tmp 2,.tmp 3]) (vs:=[vs0,(vi y6)]) (o.trans j) rfl rfl ⟨rfl,rfl,trivial⟩ ?_;exact⟨rfl,⟨vs0,rfl,z0h⟩⟩;refine qd (zx (zi (uj z2m rfl rfl (h5.mono j) (p.mono (o.trans j))) ?_));obtain⟨k,aL,d⟩:=zn d
 refine jd rfl zxn rfl (zbt (p.mono (o.trans j)) aL) fun U bk ah E=>?_;refine zo U (jc (zo vs0 (z8 ?_)));obtain⟨q,a,d⟩:=zn d
 refine ji (γ:=(List (List Int))×Value×Frag) (rs [6,12,19,50]) (fun g=>[(6,g.2.1)]) (fun g=>[g.2.2]++A) (fun g R=>q=g.1∧ORep (tSl true (qb .i64)) R g.2.2 g.2.1 g.1∧True) ?_ ?_;refine zx (zw U (zi (ja rfl underlying36 rfl (jv E)) (zw (vi 0) (z8 (q9 (z8g ?_))))))
 refine uk (γ:=Nat×(List (List Int))×Int×Value×Frag) (rs [6,12,21,50]) (fun g=>[(6,g.2.2.2.1),(21,(vi g.2.2.1))]) (fun g=>[g.2.2.2.2]++A) (fun g R=>z2o N k g.1 g.2.1 g.2.2.1=some q∧ORep (tSl true (qb .i64)) R g.2.2.2.2 g.2.2.2.1 g.2.1∧True) (fun g=>g.1) (N,[],0,vs0,emp) prm ⟨a,(z4o (T:=(tSl true (qb .i64)))),trivial⟩ ?_
 clear a;rintro⟨F,s,f,V,t⟩ a8 bl l ⟨a,W,_⟩;rcases F with _|F;exact j5 a;replace a:z2o N k (F+1) s f=some q:=a;rw [z2o] at a;refine zx (zi (jo rfl rfl) (z8 (zq (qa rfl a (fun a=>?_) (fun a=>?_)))));refine qd ?_;obtain⟨Z,e,a⟩:=zn a
 refine ji (γ:=(List (List Int))×Value×Frag) (rs [6,12,23,49]) (fun g=>[(6,g.2.1)]) (fun g=>[g.2.2]++A) (fun g R=>Z=g.1∧ORep (tSl true (qb .i64)) R g.2.2 g.2.1 g.1∧True) ?_ ?_;refine q9 (zx (zw (vi f) ?_));obtain⟨ai,e⟩:=ze e
 refine bz (i:=f.toNat) rfl dz rfl (jv (E.mono l)) (zb rfl ai.1) (zm ai) fun bm aM=>?_;refine jl rfl ty3 rfl aM fun bn aN=>?_;obtain rfl:=ql.1 aN
 refine zo (vi f) (zo (vi (ix k f)) (z8 (zq (zx (zw (vi (ix k f)) (zw (vi f) (zi (yh rfl rfl) (z8 (qa rfl e (fun e=>?_) (fun e=>?_))))))))));refine jy ?_;exact⟨dkt,(RH.le.refl _),kg,(s,V,t),⟨rfl,trivial⟩,prm,(Option.some.inj e).symm,W,trivial⟩
 refine qd (zx (zo vs0 (z8 ?_)));obtain⟨u,b,e⟩:=zn e;refine ji (γ:=(List Int)×Value×Frag) (rs [9,12,29,44]) (fun g=>[(9,g.2.1)]) (fun g=>[t,g.2.2]++A) (fun g R=>u=g.1∧ORep (qb .i64) R g.2.2 g.2.1 g.1∧True) ?_ ?_
 refine zx (zw U (zi (ja rfl underlying36 rfl (jv (E.mono l))) (zw (vi 0) (z8 (q9 (z8g ?_))))))
 refine uk (γ:=Nat×(List Int)×Int×Value×Frag) (rs [9,12,31,44]) (fun g=>[(9,g.2.2.2.1),(31,(vi g.2.2.1))]) (fun g=>[t,g.2.2.2.2]++A) (fun g R=>z2t N k f g.1 g.2.1 g.2.2.1=some u∧ORep (qb .i64) R g.2.2.2.2 g.2.2.2.1 g.2.1∧True) (fun g=>g.1) (N,[],0,vs0,emp) ⟨[],(pk 1 rfl (pk 0 rfl (List.Perm.refl _)))⟩ ⟨b,(z4o (T:=(qb .i64))),trivial⟩ ?_
 clear b;rintro⟨G,w,c,aa,aj⟩ bo bp I ⟨b,ab,_⟩;rcases G with _|G;exact j5 b;replace b:z2t N k f (G+1) w c=some u:=b;rw [z2t] at b;refine zx (zi (jo rfl rfl) (z8 (zq (qa rfl b (fun b=>?_) (fun b=>?_)))));refine qd ?_;obtain⟨ac,h,b⟩:=zn b
 refine ji (γ:=(List Int)×Value×Frag) (rs [9,12,33,43]) (fun g=>[(9,g.2.1)]) (fun g=>[t,g.2.2]++A) (fun g R=>ac=g.1∧ORep (qb .i64) R g.2.2 g.2.1 g.1∧True) ?_ ?_;refine q9 (zx (zw (vi c) ?_));obtain⟨ak,h⟩:=ze h
 refine bz (i:=c.toNat) rfl dz rfl (jv (E.mono (l.trans I))) (zb rfl ak.1) (zm ak) fun bq aO=>?_;refine jl rfl ty3 rfl aO fun br aP=>?_;obtain rfl:=ql.1 aP
 refine zo (vi c) (zo (vi (ix k c)) (jc (zw (vi (ix k c)) (zw (vi f) (zi (bg rfl rfl) (z8 (qa rfl h (fun h=>?_) (fun h=>?_))))))))
 refine zh (zw aa (zw (vi c) (pz (T:=(qb .i64)) (X:=([c]:List Int)) (ps:=[(0,(vi c))]) (css:=[[(vi c)]]) rfl underlying36 zo3 rfl rfl (jq ⟨rfl,trivial⟩) rfl rfl (by decide) fun aQ bs ad aR=>?_)));refine uw (i:=0) rfl aR fun aS K aT=>?_
 have aU:VRep (tSl true (qb .i64)) aS aQ ([c]:List Int):=(z14 aT ad);obtain⟨al,h⟩:=ze h;refine lq (i:=1) (X:=w) (Y:=([c]:List Int)) rfl underlying36 zo3 rfl rfl rfl (ab.mono K) (jv (Sub.v (B:=(tSl false (qb .i64))) (ug Sub.refl (fun _=>rfl)) aU)) al.1 al.2 fun am aV aW=>?_;refine zo am (z8 ?_)
 exact⟨dkt,K,kg,((w++([c]:List Int)),am,aV),⟨rfl,trivial⟩,prm,(Option.some.inj h).symm,aW,trivial⟩;refine qd ?_;exact⟨dkt,(RH.le.refl _),kg,(w,aa,aj),⟨rfl,trivial⟩,prm,(Option.some.inj h).symm,ab,trivial⟩;rintro⟨ac,aX,aY⟩ bt bu an ⟨rfl,aZ,_⟩;refine zh ?_;obtain⟨a0,b⟩:=ze b
 refine zi (jr rfl rfl a0) (zw (vi (c+1)) (z8 ?_));exact⟨dkt,an,kg,(G,ac,c+1,aX,aY),Nat.lt_succ_self _,⟨rfl,rfl,trivial⟩,prm,b,aZ,trivial⟩;refine jy ?_;exact⟨dkt,I,kg,(w,aa,aj),⟨rfl,trivial⟩,prm,(Option.some.inj b).symm,ab,trivial⟩;rintro⟨u,ao,bv⟩ bw bx L ⟨rfl,a1,_⟩
 refine zh (zw V (zw ao (uw (i:=1) rfl a1 fun ap x aq=>?_)));have ar:VRep (tSl false (qb .i64)) ap ao u:=(z9p aq);obtain⟨n,au,e⟩:=zn e;refine jd rfl zyl rfl (z7w ar au) fun M a9 y O=>?_
 refine pz (T:=(tSl true (qb .i64))) (X:=([n]:List (List Int))) (ps:=[(0,M)]) (css:=[[M]]) rfl underlying30 zv5 rfl (by simp only [List.map_cons,List.map_nil,z10 O];rfl) (jq ⟨(kw rfl O),trivial⟩) rfl rfl (by decide) fun av ba H aw=>?_;refine uw (i:=0) rfl aw fun ax z ay=>?_
 have az:VRep (tSl true (tSl true (qb .i64))) ax av ([n]:List (List Int)):=(z14 ay H);obtain⟨P,e⟩:=ze e
 refine lq (i:=0) (X:=s) (Y:=([n]:List (List Int))) rfl underlying30 zv5 rfl rfl rfl (W.mono (((L.trans x).trans y).trans z)) (jv (Sub.v (B:=(tSl false (tSl true (qb .i64)))) (ug Sub.refl (fun _=>rfl)) az)) P.1 P.2 fun Q aA aB=>?_;refine zo Q (z8 ?_)
 exact⟨dkt,(((L.trans x).trans y).trans z),kg,((s++([n]:List (List Int))),Q,aA),⟨rfl,trivial⟩,prm,(Option.some.inj e).symm,aB,trivial⟩;rintro⟨Z,a2,a3⟩ bb bA aC ⟨rfl,a4,_⟩;refine zh ?_;obtain⟨aD,a⟩:=ze a;refine zi (jr rfl rfl aD) (zw (vi (f+1)) (z8 ?_))
 exact⟨dkt,aC,kg,(F,Z,f+1,a2,a3),Nat.lt_succ_self _,⟨rfl,rfl,trivial⟩,prm,a,a4,trivial⟩;refine jy ?_;exact⟨dkt,l,kg,(s,V,t),⟨rfl,trivial⟩,prm,(Option.some.inj a).symm,W,trivial⟩;rintro⟨q,aE,bB⟩ bc bC aF ⟨rfl,a5,_⟩;refine zx (zw aE (uw (i:=0) rfl a5 fun aG ae aH=>?_))
 have aI:VRep (tSl false (tSl true (qb .i64))) aG aE q:=(z9p aH);obtain⟨be,aJ,d⟩:=zn d;refine jd rfl q0e rfl (zc0 aI aJ) fun C bf af aK=>?_;refine zo C (zo (vi 0) (z8 (qx ?_)));obtain rfl:=Option.some.inj d
 refine qh (D:=[]) (J:=[]) (rs:=[.tmp 2,.tmp 3]) (vs:=[C,(vi 0)]) (((((o.trans j).trans ah).trans aF).trans ae).trans af) rfl rfl ⟨rfl,rfl,trivial⟩ ?_;exact⟨rfl,⟨C,rfl,aK⟩⟩
end GV
end Go.Proofs.Ytdhccodneoebpaa
