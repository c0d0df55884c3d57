import Derived.Test.YtohjnbajgbdhhaaShPlain
import Derived.Test.YtohjnbajgbdhhaaRows
set_option linter.unusedVariables false
set_option linter.unusedSimpArgs false
namespace Go.Proofs.Ytohjnbajgbdhhaa
namespace GV
open _root_.Go.Proofs.Try
open Go.IntWalk
set_option maxRecDepth 100000
set_option maxHeartbeats 20000000
theorem z1r: ∀ w,∃ z,(zeroValue 27).run prog w= .ok z w∧z.cells=([.int .i64 0,.int .i64 0,.slice none 0 0]:List Value).toArray:=fun w=>⟨(.agg #[(vi 0),(vi 0),vs0]),by kernel_rfl,rfl⟩
theorem wu: ∀ w,(sizeOf 27).run prog w= .ok 3 w:=fun w=>by kernel_rfl
theorem ma:FieldOk prog 27 0 0:=by
 obtain⟨i,hi,a⟩: ∃ i,prog.info? 3=some i∧i.size=1:=bi (by kernel_rfl);exact z03 underlying27 rfl rfl hi (by rw [a];rfl)
theorem ag3: ∀ w,(isAgg 3).run prog w= .ok false w:=fun w=>by kernel_rfl
theorem ty4:TyOk prog 4 fe:=by
 obtain⟨i,hi,a⟩: ∃ i,prog.info? 4=some i∧i.size=1:=bi (by kernel_rfl);exact z1t underlying4 hi rfl a
theorem za0:ZeroOk prog 40 kEdge (⟨(0:Int),(0:Int)⟩:Edge) 16:=by
 obtain⟨i,zv,hi,a,c,d,f⟩:=z2r (P:=prog) (e:=40) (zv:=(.agg #[(vi 0),(vi 0)])) (k:=2) (b:=16) (by kernel_rfl);exact⟨i,zv,hi,a,c,d,fun R=>by subst f;exact⟨_,_,rfl,rfl,rfl⟩⟩
theorem z13:FieldOk prog 27 1 1:=by
 obtain⟨i,hi,a⟩: ∃ i,prog.info? 3=some i∧i.size=1:=bi (by kernel_rfl);exact z03 underlying27 rfl rfl hi (by rw [a];rfl)
theorem mixed:prog.follows .mixedOrders=true:=by kernel_rfl
theorem ku:FieldOk prog 27 2 2:=by
 obtain⟨i,hi,a⟩: ∃ i,prog.info? 25=some i∧i.size=1:=bi (by kernel_rfl);exact z03 underlying27 rfl rfl hi (by rw [a];rfl)
theorem z3e: ∀ w,(isAgg 25).run prog w= .ok false w:=fun w=>by kernel_rfl
theorem zgg{a:Bool}:ZeroOk prog 41 (tSl a kEdge) ([]:List Edge) 24:=by
 obtain⟨i,zv,hi,c,d,f,g⟩:=z2r (P:=prog) (e:=41) (zv:=vs0) (k:=1) (b:=24) (by kernel_rfl);exact⟨i,zv,hi,c,d,f,fun R=>by subst g;exact(qy rfl z6t)⟩
theorem gy: ∀ w,(isAgg 27).run prog w= .ok true w:=fun w=>by kernel_rfl
theorem z00{a b:Bool}:TyOk prog 27 (qm a b):=by
 obtain⟨i,hi,c⟩: ∃ i,prog.info? 27=some i∧i.size=3:=bi (by kernel_rfl);exact z1t underlying27 hi rfl c
theorem ty3:TyOk prog 3 (j3 .i64):=by
 obtain⟨i,hi,a⟩: ∃ i,prog.info? 3=some i∧i.size=1:=bi (by kernel_rfl);exact z1t underlying3 hi rfl a
theorem lq{a b:Bool}:TyOk prog 25 (tSl a (tSl b kEdge)):=by
 obtain⟨i,hi,c⟩: ∃ i,prog.info? 25=some i∧i.size=1:=bi (by kernel_rfl);exact z1t underlying25 hi rfl c
theorem z1w{a:Bool}:TyOk prog 41 (tSl a kEdge):=by
 obtain⟨i,hi,b⟩: ∃ i,prog.info? 41=some i∧i.size=1:=bi (by kernel_rfl);exact z1t underlying41 hi rfl b
theorem z2f{a:Bool}:SlOk prog 25 41 (tSl a kEdge):=⟨underlying25,z1w⟩
theorem z2v:TyOk prog 40 kEdge:=by
 obtain⟨i,hi,a⟩: ∃ i,prog.info? 40=some i∧i.size=2:=bi (by kernel_rfl);exact z1t underlying40 hi rfl a
theorem z5l:SlOk prog 41 40 kEdge:=⟨underlying41,z2v⟩
theorem z4l{N:Nat}{R:RH}{s:(List Edge)}{c:Value}(k:VRep (tSl false kEdge) R c s){f:Edge→Option Bool}{e:Value}(n:FOk1 prog R e kEdge fe f){r:Int}(b:o8 N s f=some r):CallP prog 60 #[c,e] R (fun v R'=>v=(vi r)):=by
 refine qw (args:=[c,e]) func60 rfl rfl fun A=>?_;rw [o8] at b;refine zq (zl (vi 0) (zg ?_));obtain⟨o,a,b⟩:=zi b;refine jy (γ:=Unit) (rs [4,19]) (fun g=>[]) (fun g=>[]++A) (fun g R=>o=Ex.go g∧True) ?_ ?_
 refine zq (zo c (zz (ql rfl underlying41 rfl (jd k)) (zo (vi 0) (zg (qp (uz (γ:=Nat×Int) (rs [4,6,8,19]) (fun g=>[(8,(vi g.2))]) (fun g=>[]++A) (fun g R=>uw N s f g.1 g.2=some o∧True) (fun g=>g.1) (N,0) prm ⟨a,trivial⟩ ?_))))));clear a;rintro⟨m,d⟩ y H h ⟨a,_⟩
 rcases m with _|m;exact jv a;replace a:uw N s f (m+1) d=some o:=a;rw [uw] at a;refine zq (zz (jl rfl rfl) (zg (zy (qb rfl a (fun a=>?_) (fun a=>?_)))))
 refine qg (zy (qp (zq (zo (vi d) (zl (vi d) (jh (zo e (zo c (zo (vi d) ?_)))))))));obtain⟨l,a⟩:=zk a;refine vo (i:=d.toNat) rfl z5l rfl (jd (k.mono h)) (zw rfl l.1) (j4 l) fun z p=>?_;refine qz rfl z2v rfl p fun B q=>?_;obtain rfl:=uy.1 q
 obtain⟨C,t,a⟩:=zi a;refine zbm rfl rfl rfl ((n.mono h) _ (RH.le.refl _) (ix s d) _ _ (uy.2 rfl) t) fun E F j u=>?_;obtain rfl:=z06.1 u;refine zg (qb rfl a (fun a=>?_) (fun a=>?_));refine zq (zo (vi d) (zl (vi d) (zg (qo ?_))));replace b:=z0d a b;obtain rfl:=Option.some.inj b
 refine qc (D:=[]) (J:=[]) (rs:=[.tmp 4]) (vs:=[(vi d)]) (h.trans j) rfl rfl ⟨rfl,trivial⟩ ?_;exact⟨rfl,rfl⟩;refine qg (qd ?_);obtain⟨w,a⟩:=zk a;refine zz (kz rfl rfl w) (zo (vi (d+1)) (zg ?_));exact⟨dkt,j,yo,(m,d+1),Nat.lt_succ_self _,⟨rfl,trivial⟩,prm,a,trivial⟩;refine vz ?_
 exact⟨dkt,h,yo,(),trivial,prm,(Option.some.inj a).symm,trivial⟩;rintro I G K x ⟨rfl,_⟩;replace b:=z2c b;refine zq (zl (vi (-1)) (zg (qo ?_)));obtain rfl:=Option.some.inj b;refine qc (D:=[]) (J:=[]) (rs:=[.tmp 4]) (vs:=[(vi (-1))]) x rfl rfl ⟨rfl,trivial⟩ ?_;exact⟨rfl,rfl⟩
theorem zpi:Enters prog 60:=enters_of func60 rfl (by kernel_rfl)
theorem z3i{N:Nat}{R:RH}{s:(List Edge)}{a:Value}(d:VRep (tSl false kEdge) R a s){f:Edge→Option Bool}{b:Value}(e:FOk1 prog R b kEdge fe f){r:Bool}(c:pz N s f=some r):CallP prog 47 #[a,b] R (fun v R'=>v=(.bool r)):=by
 refine qw (args:=[a,b]) func47 rfl rfl fun A=>?_;rw [pz] at c;refine zq (zl (.bool false) (jh (zo a (zo b ?_))));obtain⟨h,i,c⟩:=zi c;refine jb rfl zpi rfl (z4l d e i) fun k l g j=>?_;obtain rfl:=j
 refine zz (z04 rfl rfl) (zl (.bool (decide (0≤h))) (zg (qo ?_)));obtain rfl:=Option.some.inj c;refine qc (D:=[]) (J:=[]) (rs:=[.tmp 4]) (vs:=[(.bool (decide (0≤h)))]) g rfl rfl ⟨rfl,trivial⟩ ?_;exact⟨rfl,rfl⟩
theorem zpq:Enters prog 47:=enters_of func47 rfl (by kernel_rfl)
theorem z8m: ∀ w,∃ z,(zeroValue 40).run prog w= .ok z w∧z.cells=([.int .i64 0,.int .i64 0]:List Value).toArray:=fun w=>⟨(.agg #[(vi 0),(vi 0)]),by kernel_rfl,rfl⟩
theorem z1u: ∀ w,(sizeOf 40).run prog w= .ok 2 w:=fun w=>by kernel_rfl
theorem zaq: ∀ w,(isAgg 40).run prog w= .ok true w:=fun w=>by kernel_rfl
theorem z4g{N:Nat}{R:RH}  {r:Edge} (a:lh N  =some r):CallP prog 55 #[] R (fun v R'=>v=(qx r)):=by
 refine qw (args:=[]) func55 rfl rfl fun A=>?_;rw [lh] at a;refine zq (wh rfl z8m fun b=>?_)
 refine jh (zz (xm (ps:=[(0,(vi (-1))),(1,(vi (-1)))]) (v:=(.agg #[(vi (-1)),(vi (-1))])) rfl (fun w=>by kernel_rfl)) (jm (i:=0) (vs:=[(vi (-1)),(vi (-1))]) z1u rfl rfl rfl rfl rfl rfl (zt rfl (zt rfl jq)) ?_));refine zg (qo ?_);obtain rfl:=Option.some.inj a
 refine qc (D:=[]) (J:=[box b [(vi (-1)),(vi (-1))] 40]) (rs:=[.cell 0 40]) (vs:=[(.agg #[(vi (-1)),(vi (-1))])]) (RH.le.refl _) rfl rfl ⟨⟨_,rfl,fun w c=>ay (i:=0) c rfl rfl zaq z1u rfl rfl⟩,trivial⟩ ?_;exact⟨rfl,rfl⟩
theorem zoc:Enters prog 55:=enters_of func55 rfl (by kernel_rfl)
theorem zcq:zdm prog 40:=zdq (f0:=((prog.fieldsOf 40).toList.getD 0 default)) (f1:=((prog.fieldsOf 40).toList.getD 1 default)) (by kernel_rfl) (by kernel_rfl) (by kernel_rfl) (by kernel_rfl) (by kernel_rfl) (by kernel_rfl) (by kernel_rfl) (by kernel_rfl) (by kernel_rfl) (by kernel_rfl)
theorem z4w:FieldOk prog 40 0 0:=by
 obtain⟨i,hi,a⟩: ∃ i,prog.info? 3=some i∧i.size=1:=bi (by kernel_rfl);exact z03 underlying40 rfl rfl hi (by rw [a];rfl)
theorem z7y:FieldOk prog 40 1 1:=by
 obtain⟨i,hi,a⟩: ∃ i,prog.info? 3=some i∧i.size=1:=bi (by kernel_rfl);exact z03 underlying40 rfl rfl hi (by rw [a];rfl)
theorem z4c{N:Nat}{R:RH}{m:Mach}{p:Value}(w:VRep (qm false false) R p m){x:Edge}{r:Bool}(n:z0z N m x=some r):CallP prog 49 #[p,(qx x)] R (fun v R'=>v=(.bool r)):=by
 refine qw (args:=[p,(qx x)]) func49 rfl rfl fun A=>?_;rw [z0z] at n;refine zq (w9 (T:=(qm false false)) rfl rfl rfl w fun v1 R3 y h5 K=>?_);refine z4k (T:=kEdge) rfl rfl (uy.2 rfl) fun v6 R8 q t=>?_;refine zl (.bool false) (zg (zy ?_));obtain⟨b,z,n⟩:=zi n
 let B:=((decide (x.to=b.to∧x.out=b.out))||((((decide (0≤x.to))&&(decide (x.to<(↑m.rows.length:Int))))&&(decide (0≤x.out)))&&(decide (x.out<m.outputs))));let L:=((((decide (0≤x.to))&&(decide (x.to<(↑m.rows.length:Int))))&&(decide (0≤x.out)))&&(decide (x.out<m.outputs)))
 let o:=(((decide (0≤x.to))&&(decide (x.to<(↑m.rows.length:Int))))&&(decide (0≤x.out)));let k:=((decide (0≤x.to))&&(decide (x.to<(↑m.rows.length:Int))));let e:=(true&&((decide (x.to=b.to∧x.out=b.out))==false))
 refine ou 29 [] [phX (qx x),phX (qx b),phX (.bool (decide (x.to=b.to∧x.out=b.out))),phX (.bool (decide (x.to=b.to∧x.out=b.out))),phG e (phP (j3 .i64) x.to),phG e (phX (vi x.to)),phG e (phX (.bool (decide (0≤x.to)))),phG e (phX (.bool (decide (0≤x.to)))),phG (e&&((decide (0≤x.to))==true)) (phP (j3 .i64) x.to),phG (e&&((decide (0≤x.to))==true)) (phX (vi x.to)),phG (e&&((decide (0≤x.to))==true)) (phP (tSl false (tSl false kEdge)) m.rows),phG (e&&((decide (0≤x.to))==true)) (phR (tSl false (tSl false kEdge)) m.rows),phG (e&&((decide (0≤x.to))==true)) (phX (vi (↑m.rows.length:Int))),phG (e&&((decide (0≤x.to))==true)) (phX (.bool (decide (x.to<(↑m.rows.length:Int))))),phG e (phX (.bool k)),phG e (phX (.bool k)),phG (e&&(k==true)) (phP (j3 .i64) x.out),phG (e&&(k==true)) (phX (vi x.out)),phG (e&&(k==true)) (phX (.bool (decide (0≤x.out)))),phG e (phX (.bool o)),phG e (phX (.bool o)),phG (e&&(o==true)) (phP (j3 .i64) x.out),phG (e&&(o==true)) (phX (vi x.out)),phG (e&&(o==true)) (phP (j3 .i64) m.outputs),phG (e&&(o==true)) (phX (vi m.outputs)),phG (e&&(o==true)) (phX (.bool (decide (x.out<m.outputs)))),phG e (phX (.bool L)),phX (.bool B),phX (.bool B)] mixed (by kernel_rfl) (df ⟨zf,zf,zf,zf,(zm xg),(zm zf),(zm zf),(zm zf),(zm xg),(zm zf),(zm xg),(zm gm),(zm zf),(zm zf),(zm zf),(zm zf),(zm xg),(zm zf),(zm zf),(zm zf),(zm zf),(zm xg),(zm zf),(zm xg),(zm zf),(zm zf),(zm zf),zf,zf,trivial⟩) ⟨?_,?_,?_,?_,?_,?_,?_,?_,?_,?_,?_,?_,?_,?_,?_,?_,?_,?_,?_,?_,?_,?_,?_,?_,?_,?_,?_,?_,?_,trivial⟩ fun ai u=>?_
 intro l aj a g hd;exact ze rfl rfl rfl (gz (uk z2v (g 3 rfl) (t.mono a)) (fun _ _ h=>uy.1 h));intro l al a g hd;exact ze rfl rfl rfl (qj (vs:=[]) zoc rfl (z4g  z) (fun _ _ h=>h));rintro l am a g ⟨c,f,_⟩;exact ze rfl rfl rfl (zh (z7m zcq (c rfl) (f rfl)));rintro l an a g ⟨c,f,_⟩
 exact ze rfl rfl rfl (zh (z8 (c rfl)));rintro l ao a g ⟨c,_⟩;exact zb (Gj:=true) (Bj:=decide (x.to=b.to∧x.out=b.out)) rfl rfl rfl (qh (c rfl)) rfl (fun i d=>mr z4w z9i (g 3 rfl) (t.mono a));rintro l ap a g ⟨c,f,_⟩
 exact zb (Gj:=true) (Bj:=decide (x.to=b.to∧x.out=b.out)) rfl rfl rfl (qh (f rfl)) rfl (fun i d=>gz (uk ty3 rfl ((c rfl).1 (za rfl d))) (fun _ _ h=>ko.1 h));rintro l aq a g ⟨c,f,_⟩
 exact zb (Gj:=true) (Bj:=decide (x.to=b.to∧x.out=b.out)) rfl rfl rfl (qh (f rfl)) rfl (fun i d=>zh (z04 (show l 10=(vi x.to) from(c rfl).1 (za rfl d)) rfl));rintro l ar a g ⟨c,f,j,_⟩
 exact zb (Gj:=true) (Bj:=decide (x.to=b.to∧x.out=b.out)) rfl rfl rfl (qh (f rfl)) rfl (fun i d=>zh (z8 (show l 11=(.bool (decide (0≤x.to))) from(c rfl).1 (za rfl d))));rintro l au a g ⟨c,_⟩;exact zb (Gj:=e) (Bj:=decide (0≤x.to)) rfl rfl rfl (c rfl) rfl (fun i d=>mr z4w z9i (g 3 rfl) (t.mono a))
 rintro l av a g ⟨c,f,_⟩;exact zb (Gj:=e) (Bj:=decide (0≤x.to)) rfl rfl rfl (f rfl) rfl (fun i d=>gz (uk ty3 rfl ((c rfl).1 (za i d))) (fun _ _ h=>ko.1 h));rintro l M a g ⟨c,_⟩;exact zb (Gj:=e) (Bj:=decide (0≤x.to)) rfl rfl rfl (c rfl) rfl (fun i d=>mr ku kw (g 2 rfl) ((K.mono q).mono a))
 rintro l O a g ⟨c,f,_⟩;exact zb (Gj:=e) (Bj:=decide (0≤x.to)) rfl rfl rfl (f rfl) rfl (fun i d=>uk lq rfl ((c rfl).1 (za i d)));rintro l P a g ⟨c,f,_⟩;exact zb (Gj:=e) (Bj:=decide (0≤x.to)) rfl rfl rfl (f rfl) rfl (fun i d=>zh (ql rfl underlying25 rfl (jd ((c rfl).1 (za i d)))))
 rintro l Q a g ⟨c,f,j,_⟩;exact zb (Gj:=e) (Bj:=decide (0≤x.to)) rfl rfl rfl (j rfl) rfl (fun i d=>zh (jl (show l 14=(vi x.to) from(c rfl).1 (za i d)) (show l 17=(vi (↑m.rows.length:Int)) from(f rfl).1 (za i d))));rintro l S a g ⟨c,f,j,_⟩
 exact zb (Gj:=true) (Bj:=decide (x.to=b.to∧x.out=b.out)) rfl rfl rfl (qh (j rfl)) rfl (fun i d=>zh (ul (show l 12=(.bool (decide (0≤x.to))) from(c rfl).1 (za rfl d)) (fun s=>(show l 18=(.bool (decide (x.to<(↑m.rows.length:Int)))) from(f rfl).1 (za (za rfl d) s))) rfl));rintro l U a g ⟨c,f,j,_⟩
 exact zb (Gj:=true) (Bj:=decide (x.to=b.to∧x.out=b.out)) rfl rfl rfl (qh (j rfl)) rfl (fun i d=>zh (z8 (show l 19=(.bool k) from(c rfl).1 (za rfl d))));rintro l V a g ⟨c,_⟩
 exact zb (Gj:=e) (Bj:=(decide (0≤x.to))&&(decide (x.to<(↑m.rows.length:Int)))) rfl rfl rfl (c rfl) rfl (fun i d=>mr z7y zem (g 3 rfl) (t.mono a));rintro l W a g ⟨c,f,_⟩
 exact zb (Gj:=e) (Bj:=(decide (0≤x.to))&&(decide (x.to<(↑m.rows.length:Int)))) rfl rfl rfl (f rfl) rfl (fun i d=>gz (uk ty3 rfl ((c rfl).1 (za i d))) (fun _ _ h=>ko.1 h));rintro l X a g ⟨c,f,_⟩
 exact zb (Gj:=e) (Bj:=(decide (0≤x.to))&&(decide (x.to<(↑m.rows.length:Int)))) rfl rfl rfl (f rfl) rfl (fun i d=>zh (z04 (show l 22=(vi x.out) from(c rfl).1 (za i d)) rfl));rintro l Y a g ⟨c,f,j,_⟩
 exact zb (Gj:=true) (Bj:=decide (x.to=b.to∧x.out=b.out)) rfl rfl rfl (qh (j rfl)) rfl (fun i d=>zh (ul (show l 20=(.bool k) from(c rfl).1 (za rfl d)) (fun s=>(show l 23=(.bool (decide (0≤x.out))) from(f rfl).1 (za (za rfl d) s))) rfl));rintro l Z a g ⟨c,f,j,_⟩
 exact zb (Gj:=true) (Bj:=decide (x.to=b.to∧x.out=b.out)) rfl rfl rfl (qh (j rfl)) rfl (fun i d=>zh (z8 (show l 24=(.bool o) from(c rfl).1 (za rfl d))));rintro l aa a g ⟨c,_⟩;exact zb (Gj:=e) (Bj:=k&&(decide (0≤x.out))) rfl rfl rfl (c rfl) rfl (fun i d=>mr z7y zem (g 3 rfl) (t.mono a))
 rintro l ab a g ⟨c,f,_⟩;exact zb (Gj:=e) (Bj:=k&&(decide (0≤x.out))) rfl rfl rfl (f rfl) rfl (fun i d=>gz (uk ty3 rfl ((c rfl).1 (za i d))) (fun _ _ h=>ko.1 h));rintro l ac a g ⟨c,_⟩
 exact zb (Gj:=e) (Bj:=k&&(decide (0≤x.out))) rfl rfl rfl (c rfl) rfl (fun i d=>mr z13 z09 (g 2 rfl) ((K.mono q).mono a));rintro l ad a g ⟨c,f,_⟩;exact zb (Gj:=e) (Bj:=k&&(decide (0≤x.out))) rfl rfl rfl (f rfl) rfl (fun i d=>gz (uk ty3 rfl ((c rfl).1 (za i d))) (fun _ _ h=>ko.1 h))
 rintro l ae a g ⟨c,f,j,_⟩;exact zb (Gj:=e) (Bj:=k&&(decide (0≤x.out))) rfl rfl rfl (j rfl) rfl (fun i d=>zh (jl (show l 27=(vi x.out) from(c rfl).1 (za i d)) (show l 29=(vi m.outputs) from(f rfl).1 (za i d))));rintro l af a g ⟨c,f,j,_⟩
 exact zb (Gj:=true) (Bj:=decide (x.to=b.to∧x.out=b.out)) rfl rfl rfl (qh (j rfl)) rfl (fun i d=>zh (ul (show l 25=(.bool o) from(c rfl).1 (za rfl d)) (fun s=>(show l 30=(.bool (decide (x.out<m.outputs))) from(f rfl).1 (za (za rfl d) s))) rfl));rintro l ag a g ⟨c,f,_⟩
 exact ze rfl rfl rfl (zh (jg (c rfl) rfl (fun s=>(show l 31=(.bool L) from(f rfl).1 (za rfl s)))));rintro l ah a g ⟨c,f,j,d3,d4,d5,d6,d7,d8,d9,aw,ax,ay,az,aA,aB,aC,aD,aE,aF,aG,aH,aI,aJ,aK,aL,aM,aN,aO,aP,_⟩;exact ze rfl rfl rfl (zh (ui (c rfl)))
 intro aQ C aR E aS F aT G aU aV aW aX aY aZ a0 a1 a2 a3 a4 a5 a6 a7 a8 a9 ba bb bc be bf bg bh bi bj bk bl bm bn bo bp bq br bs bt bu bv bw bx bz bA bB bC bD bE bF bG H bH I;obtain rfl:=Eq.symm C;obtain rfl:=Eq.symm E;obtain rfl:=Eq.symm F;obtain rfl:=Eq.symm G;obtain rfl:=Eq.symm H;obtain rfl:=Eq.symm I
 refine zg (qo ?_);obtain rfl:=Option.some.inj n;refine qc (D:=[]) (J:=[]) (rs:=[.tmp 4]) (vs:=[(.bool B)]) ((y.trans q).trans u) rfl rfl ⟨rfl,trivial⟩ ?_;exact⟨rfl,rfl⟩
theorem zof:Enters prog 49:=enters_of func49 rfl (by kernel_rfl)
theorem z92{N:Nat}{R:RH}{x:Edge}{p0_:Mach}{a:Value}(c:PRep (qm false false) R a p0_){r:Bool}(b:z3j N x p0_=some r):CallP prog 48 #[(qx x),a] R (fun v R'=>v=(.bool r)):=by
 refine qw (args:=[(qx x),a]) func48 rfl rfl fun A=>?_;rw [z3j] at b;refine zq (z4k (T:=kEdge) rfl rfl (uy.2 rfl) fun n o d i=>?_);refine zl (.bool false) (jh (qz rfl z00 rfl (c.mono d) fun p j=>?_));refine qz rfl z2v rfl i fun q k=>?_;obtain rfl:=uy.1 k
 obtain⟨h,f,b⟩:=zi b;refine jb rfl zof rfl (z4c j f) fun l m e g=>?_;obtain rfl:=g;refine zz (ik rfl) (zl (.bool (!h)) (zg (qo ?_)));obtain rfl:=Option.some.inj b;refine qc (D:=[]) (J:=[]) (rs:=[.tmp 3]) (vs:=[(.bool (!h))]) (d.trans e) rfl rfl ⟨rfl,trivial⟩ ?_;exact⟨rfl,rfl⟩
theorem zqb:Enters prog 48:=enters_of func48 rfl (by kernel_rfl)
theorem gq{N:Nat}{R:RH}{m:Mach}{q:Value}(F:VRep (qm false false) R q m){r:Int}(b:uj N m=some r):CallP prog 31 #[q] R (fun v R'=>v=(vi r)):=by
 refine qw (args:=[q]) func31 rfl rfl fun A=>?_;rw [uj] at b;refine zq (w9 (T:=(qm false false)) rfl rfl rfl F fun E R3 k h5 l=>?_);refine zl (vi 0) (zg (zy (zq (zba rfl (kv ma p9 rfl l) fun v6 h7=>?_))))
 refine qi rfl (ni (ja ty3 rfl h7)) (qi rfl (z0b rfl rfl) (qi (v:=(.bool (decide (16<m.inputs)))) rfl (z8 rfl) (zx rfl rfl rfl rfl (fun c=>kv z13 z09 rfl l) fun ak G=>?_)));refine zx rfl rfl rfl rfl (fun c=>zn (ni (ja ty3 rfl (G.1 (za rfl c))))) fun al H=>?_
 refine zx rfl rfl rfl rfl (fun c=>zn (z0b (H.1 (za rfl c)) rfl)) fun am I=>?_;refine qi rfl (jg rfl rfl (fun n=>(I.1 (za rfl n)))) (qi (v:=(.bool ((decide (16<m.inputs))||(decide (16<m.outputs))))) rfl (z8 rfl) (zx rfl rfl rfl rfl (fun c=>kv ku kw rfl l) fun an K=>?_))
 refine zx rfl rfl rfl rfl (fun c=>ja lq rfl (K.1 (za rfl c))) fun ao L=>?_;refine zx rfl rfl rfl rfl (fun c=>zn (ql rfl underlying25 rfl (jd (L.1 (za rfl c))))) fun ap M=>?_;refine zx rfl rfl rfl rfl (fun c=>zn (z0b (M.1 (za rfl c)) rfl)) fun aq O=>?_
 refine qi rfl (jg rfl rfl (fun n=>(O.1 (za rfl n)))) (zg (qb rfl b (fun b=>?_) (fun b=>?_)));refine zq (zl (vi 3) (zg (qo ?_)));obtain rfl:=Option.some.inj b;refine qc (D:=[]) (J:=[]) (rs:=[.tmp 2]) (vs:=[(vi 3)]) k rfl rfl ⟨rfl,trivial⟩ ?_;exact⟨rfl,rfl⟩
 refine qg (zy (zq (zba rfl (kv ma p9 rfl l) fun ar P=>?_)));refine qi rfl (ni (ja ty3 rfl P)) (qi rfl (jl rfl rfl) (qi (v:=(.bool (decide (m.inputs<1)))) rfl (z8 rfl) (zx rfl rfl rfl rfl (fun c=>kv z13 z09 rfl l) fun au Q=>?_)))
 refine zx rfl rfl rfl rfl (fun c=>zn (ni (ja ty3 rfl (Q.1 (za rfl c))))) fun av S=>?_;refine zx rfl rfl rfl rfl (fun c=>zn (jl (S.1 (za rfl c)) rfl)) fun aw U=>?_
 refine qi rfl (jg rfl rfl (fun n=>(U.1 (za rfl n)))) (qi (v:=(.bool ((decide (m.inputs<1))||(decide (m.outputs<1))))) rfl (z8 rfl) (zx rfl rfl rfl rfl (fun c=>kv ku kw rfl l) fun ax V=>?_));refine zx rfl rfl rfl rfl (fun c=>ja lq rfl (V.1 (za rfl c))) fun ay W=>?_
 refine zx rfl rfl rfl rfl (fun c=>zn (ql rfl underlying25 rfl (jd (W.1 (za rfl c))))) fun az X=>?_;refine zx rfl rfl rfl rfl (fun c=>zn (jl (X.1 (za rfl c)) rfl)) fun aA Y=>?_;refine qi rfl (jg rfl rfl (fun n=>(Y.1 (za rfl n)))) (zg (qb rfl b (fun b=>?_) (fun b=>?_)))
 refine zq (zl (vi 1) (zg (qo ?_)));obtain rfl:=Option.some.inj b;refine qc (D:=[]) (J:=[]) (rs:=[.tmp 2]) (vs:=[(vi 1)]) k rfl rfl ⟨rfl,trivial⟩ ?_;exact⟨rfl,rfl⟩;refine qg ?_;obtain⟨s,a,b⟩:=zi b;refine jy (γ:=Unit) (rs [2,3,4,5,33,51]) (fun g=>[]) (fun g=>[]++A) (fun g R=>s=Ex.go g∧True) ?_ ?_
 refine zq (kg rfl ku kw rfl l fun aB Z=>?_);refine qz rfl lq rfl Z fun aC t=>?_
 refine zz (ql rfl underlying25 rfl (jd t)) (zo (vi 0) (zg (qp (uz (γ:=Nat×Int) (rs [2,3,4,5,36,51]) (fun g=>[(36,(vi g.2))]) (fun g=>[]++A) (fun g R=>cz N m g.1 g.2=some s∧True) (fun g=>g.1) (N,0) prm ⟨a,trivial⟩ ?_))));clear a;rintro⟨o,e⟩ ah aD d ⟨a,_⟩;rcases o with _|o
 exact jv a;replace a:cz N m (o+1) e=some s:=a;rw [cz] at a;refine zq (zz (jl rfl rfl) (zg (zy (qb rfl a (fun a=>?_) (fun a=>?_)))));refine qg (zy (qp (zq ?_)));obtain⟨u,a⟩:=zk a
 refine vo (i:=e.toNat) rfl z2f rfl (jd (t.mono d)) (zw rfl u.1) (j4 u) fun aE aa=>?_;refine qz rfl z1w rfl aa fun p w=>?_;refine zl p (jh (qi (v:=p) rfl (z8 rfl) (qi rfl (ql rfl underlying41 rfl (jd w)) (zba rfl (kv ma p9 rfl (l.mono d)) fun aF ab=>?_))))
 refine qi rfl (ni (ja ty3 rfl ab)) (qi rfl (jk rfl rfl) (qi (v:=(.bool (decide ((↑(ix m.rows e).length:Int)≠m.inputs)))) rfl (z8 rfl) (zx rfl rfl rfl rfl (fun c=>zn (v:=p) (z8 rfl)) fun aG ac=>?_)))
 refine zx rfl rfl rfl rfl (fun c=>zn (v:=(.func (.func 48) #[] #[E])) (z3l (fs:=[]) (cs:=[E]) rfl rfl)) fun aH ad=>?_;obtain⟨ae,af,a⟩:=zi a
 refine lg rfl rfl rfl rfl (fun c=>qj (vs:=[p,(.func (.func 48) #[] #[E])]) zpq (z1s (ac.1 (za rfl c)) (z1s (ad.1 (za rfl c)) rfl)) ((by have ag:=(uq af (za rfl c));exact z3i w (zi5 (cs:=[E]) zqb fun R1 hq z0 u0 y k0 hy=>by obtain rfl:=uy.1 k0;exact CallP.mono (z92 ((l.mono d).mono hq) hy) fun v R2 _ hv=>z06.2 hv) ag)) (fun _ _ h=>h)) fun x z f j=>?_
 replace j:phG (true&&((decide ((↑(ix m.rows e).length:Int)≠m.inputs))==false)) (phX (.bool (ae.getD default))) x z:=j;refine qi rfl (jg rfl rfl (fun n=>(j.1 (za rfl n)))) (zg (qb rfl a (fun a=>?_) (fun a=>?_)));refine zq (zl (vi 1) (zg (qo ?_)));replace b:=z0d a b;obtain rfl:=Option.some.inj b
 refine qc (D:=[]) (J:=[]) (rs:=[.tmp 2]) (vs:=[(vi 1)]) ((k.trans d).trans f) rfl rfl ⟨rfl,trivial⟩ ?_;exact⟨rfl,rfl⟩;refine qg (qd ?_);obtain⟨B,a⟩:=zk a;refine zz (kz rfl rfl B) (zo (vi (e+1)) (zg ?_));exact⟨dkt,f,yo,(o,e+1),Nat.lt_succ_self _,⟨rfl,trivial⟩,prm,a,trivial⟩
 refine vz ?_;exact⟨dkt,d,yo,(),trivial,prm,(Option.some.inj a).symm,trivial⟩;rintro aM ai aN C ⟨rfl,_⟩;replace b:=z2c b;refine zq (zl (vi 0) (zg (qo ?_)));obtain rfl:=Option.some.inj b;refine qc (D:=[]) (J:=[]) (rs:=[.tmp 2]) (vs:=[(vi 0)]) (k.trans C) rfl rfl ⟨rfl,trivial⟩ ?_;exact⟨rfl,rfl⟩
theorem zb9:Enters prog 31:=enters_of func31 rfl (by kernel_rfl)
theorem zpp: ∀ w,∃ z,(zeroValue 34).run prog w= .ok z w∧z.cells=([.slice none 0 0]:List Value).toArray:=fun w=>⟨vs0,by kernel_rfl,rfl⟩
theorem zaa{N:Nat}{R:RH}{m:Mach}{a:Value}(d:VRep (qm false false) R a m){r:Mach}(b:z2w N m=some r):CallP prog 54 #[a] R (fun v R'=> ∃ f,v= .func (.func 61) #[] #[f]∧PRep (qm false false) R' f r):=by
 refine qw (args:=[a]) func54 rfl rfl fun A=>?_;rw [z2w] at b;refine zq (w9 (T:=(qm false false)) rfl rfl rfl d fun c h e i g=>?_);refine zl .nilFunc (jh (zz (z3l (fs:=[]) (cs:=[c]) rfl rfl) (zl (.func (.func 61) #[] #[c]) (zg (qo ?_)))));obtain rfl:=Option.some.inj b
 refine qc (D:=[]) (J:=[]) (rs:=[.tmp 2]) (vs:=[(.func (.func 61) #[] #[c])]) e rfl rfl ⟨rfl,trivial⟩ ?_;exact⟨rfl,⟨c,rfl,g⟩⟩
theorem zqc:Enters prog 54:=enters_of func54 rfl (by kernel_rfl)
theorem z9c{N:Nat}{R:RH}{p0_:Mach}{e:Value}(r:PRep (qm false false) R e p0_):zna prog 61 [e] R (fun(x:((Int×Int)×Edge)) vs R=>vs=[(z1y x.1),(qx x.2)]) (fun σ B s=>z0c N p0_ σ B s):=by
 intro yv σ B I R1 O s0 Y C ac h0 c hy;refine z1j (args:=[yv,e]) func61 rfl rfl fun A=>?_;dsimp only at c;rw [z0c] at c;refine zq (kg rfl ku kw rfl (r.mono C) fun v1 h2=>?_);refine qz rfl lq rfl h2 fun v3 Z=>?_
 refine zz (ql rfl underlying25 rfl (jd Z)) (zo (vi 0) (zg (qp (uz (γ:=Nat×σ×Int×(List Frag)) (rs [3,7,10,31]) (fun g=>[(10,(vi g.2.2.1))]) (fun g=>[]++(g.2.2.2++A)) (fun g R=>dn N σ B p0_ g.1 g.2.1 g.2.2.1=some Y∧I g.2.1 R g.2.2.2∧True) (fun g=>g.1) (N,s0,0,O) prm ⟨c,h0,trivial⟩ ?_))));clear c
 rintro⟨P,x6,d,k⟩ ag R8 h ⟨c,l,_⟩;rcases P with _|P;exact jv c;replace c:dn N σ B p0_ (P+1) x6 d=some Y:=c;rw [dn] at c;refine zq (zz (jl rfl rfl) (zg (zy (qb rfl c (fun c=>?_) (fun c=>?_)))));refine qg ?_;obtain⟨t,b,c⟩:=zi c
 refine jy (γ:=σ×(List Frag)) (rs [3,7,12,30]) (fun g=>[]) (fun g=>[]++(g.2++A)) (fun g R=>t=Ex.go g.1∧I g.1 R g.2∧True) ?_ ?_;refine qp (zq (zo (vi d) ?_));obtain⟨E,b⟩:=zk b;refine vo (i:=d.toNat) rfl z2f rfl (jd (Z.mono h)) (zw rfl E.1) (j4 E) fun ah Q=>?_
 refine qz rfl z1w rfl Q fun F G=>?_
 refine zl (vi d) (zl F (jh (zo F (zz (ql rfl underlying41 rfl (jd G)) (zo (vi 0) (zg (qp (uz (γ:=Nat×σ×Int×(List Frag)) (rs [5,7,17,30]) (fun g=>[(17,(vi g.2.2.1))]) (fun g=>[]++(g.2.2.2++A)) (fun g R=>bz N σ B p0_ d g.1 g.2.1 g.2.2.1=some t∧I g.2.1 R g.2.2.2∧True) (fun g=>g.1) (N,x6,0,k) prm ⟨b,l,trivial⟩ ?_))))))))
 clear b;rintro⟨j,u,a,m⟩ ai aj f ⟨b,n,_⟩;rcases j with _|j;exact jv b;replace b:bz N σ B p0_ d (j+1) u a=some t:=b;rw [bz] at b;refine zq (zz (jl rfl rfl) (zg (zy (qb rfl b (fun b=>?_) (fun b=>?_)))))
 refine qg (zy (qp (zq (zo (vi a) ?_))));obtain⟨H,b⟩:=zk b;refine vo (i:=a.toNat) rfl z5l rfl (jd (G.mono f)) (zw rfl H.1) (j4 H) fun ak S=>?_;refine qz rfl z2v rfl S fun al T=>?_;obtain rfl:=uy.1 T;refine wh rfl z8m fun y=>?_
 refine zl (vi a) (jm (i:=0) (vs:=[(vi ((ix (ix p0_.rows d) a).to)),(vi ((ix (ix p0_.rows d) a).out))]) z1u rfl rfl rfl rfl rfl rfl (zt rfl (zt rfl jq)) ?_)
 refine jh (zo yv (zo (vi d) (zo (vi a) (zz (xm (ps:=[(0,(vi d)),(1,(vi a))]) (v:=(.agg #[(vi d),(vi a)])) rfl (fun w=>by kernel_rfl)) (zz (qa (i:=0) zaq z1u rfl rfl rfl rfl) ?_)))));obtain⟨z,U,b⟩:=zi b
 refine zjt (vs:=[(.agg #[(vi d),(vi a)]),(.agg #[(vi ((ix (ix p0_.rows d) a).to)),(vi ((ix (ix p0_.rows d) a).out))])]) (J:=[box y [(vi ((ix (ix p0_.rows d) a).to)),(vi ((ix (ix p0_.rows d) a).out))] 40]) (Oc:=m) (A:=A) rfl rfl rfl rfl (hy (((d,a):(Int×Int)),(⟨(ix (ix p0_.rows d) a).to,(ix (ix p0_.rows d) a).out⟩:Edge)) u z.1 z.2 _ _ [(.agg #[(vi d),(vi a)]),(.agg #[(vi ((ix (ix p0_.rows d) a).to)),(vi ((ix (ix p0_.rows d) a).out))])] (h.trans f) rfl n U) fun am o p q=>?_
 refine zz (ik rfl) (zg (qb rfl b (fun b=>?_) (fun b=>?_)));refine qo ?_;replace c:=z0d b c;obtain rfl:=Option.some.inj c;refine z0e (D:=[]) (J:=[box y [(vi ((ix (ix p0_.rows d) a).to)),(vi ((ix (ix p0_.rows d) a).out))] 40]) (O':=o) (rs:=[]) (vs:=[]) ((h.trans f).trans p) (List.Perm.refl _) rfl trivial ?_
 exact q;refine qg (qd ?_);obtain⟨V,b⟩:=zk b;refine zz (kz rfl rfl V) (zo (vi (a+1)) (zg ?_));exact⟨dkt,p,yo,(j,z.2,a+1,o),Nat.lt_succ_self _,⟨rfl,trivial⟩,⟨[box y [(vi ((ix (ix p0_.rows d) a).to)),(vi ((ix (ix p0_.rows d) a).out))] 40],(List.Perm.refl _)⟩,b,q,trivial⟩
 refine vz ?_;exact⟨dkt,f,yo,(u,m),trivial,prm,(Option.some.inj b).symm,n,trivial⟩;rintro⟨W,K⟩ an ao L ⟨rfl,M,_⟩;replace c:=z2c c;refine qd ?_;obtain⟨X,c⟩:=zk c;refine zz (kz rfl rfl X) (zo (vi (d+1)) (zg ?_))
 exact⟨dkt,L,yo,(P,W,d+1,K),Nat.lt_succ_self _,⟨rfl,trivial⟩,prm,c,M,trivial⟩;refine vz ?_;show zby _ _ _ _ _ .ret _ [] _ _;obtain rfl:=Option.some.inj c;refine z0e (D:=[]) (J:=[]) (O':=k) (rs:=[]) (vs:=[]) h (List.Perm.refl _) rfl trivial ?_;exact l
theorem zq8:Enters prog 61:=enters_of func61 rfl (by kernel_rfl)
theorem zpz: ∀ w,∃ z,(zeroValue 42).run prog w= .ok z w∧z.cells=([.int .i64 0,.int .i64 0]:List Value).toArray:=fun w=>⟨(.agg #[(vi 0),(vi 0)]),by kernel_rfl,rfl⟩
theorem zpb: ∀ w,(sizeOf 42).run prog w= .ok 2 w:=fun w=>by kernel_rfl
theorem zog: ∀ w,(isAgg 34).run prog w= .ok false w:=fun w=>by kernel_rfl
theorem zq9: ∀ w,(isAgg 42).run prog w= .ok true w:=fun w=>by kernel_rfl
theorem zop:ZeroOk prog 42 kA2tInti64 (((0:Int),(0:Int)):(Int×Int)) 16:=by
 obtain⟨i,zv,hi,a,c,d,f⟩:=z2r (P:=prog) (e:=42) (zv:=(.agg #[(vi 0),(vi 0)])) (k:=2) (b:=16) (by kernel_rfl);exact⟨i,zv,hi,a,c,d,fun R=>by subst f;exact⟨_,_,rfl,rfl,rfl⟩⟩
theorem zpr: ∀ w,(sizeOf 34).run prog w= .ok 1 w:=fun w=>by kernel_rfl
theorem zpf:TyOk prog 42 kA2tInti64:=by
 obtain⟨i,hi,a⟩: ∃ i,prog.info? 42=some i∧i.size=2:=bi (by kernel_rfl);exact z1t underlying42 hi rfl a
theorem zfw:SlOk prog 34 42 kA2tInti64:=⟨underlying34,zpf⟩
theorem z8b{N:Nat}{R:RH}{s:(List (Int×Int))}{a:Value}(b:VRep (tSl false kA2tInti64) R a s){r:(List (Int×Int))}(c:z0n N s=some r):CallP prog 56 #[a] R (fun v R'=>VRep (tSl true kA2tInti64) R' v r):=by
 refine qw (args:=[a]) func56 rfl rfl fun A=>?_;rw [z0n] at c;refine zq (zl vs0 (jh (zo a (zo a (zz (ql rfl underlying34 rfl (jd b)) (zo a (zz (ql rfl underlying34 rfl (jd b)) ?_)))))));obtain⟨d,c⟩:=zk c
 refine ziu (v:=a) (lo:=(0:Int).toNat) (hi:=(↑s.length:Int).toNat) (mx:=(↑s.length:Int).toNat) rfl zfw rfl (jd b) (.inl ⟨rfl,rfl⟩) (.inr ⟨_,congrArg some (zw rfl (zer d))⟩) (.inr ⟨_,congrArg some (zw rfl (zer d))⟩) (zfm d) (z8q d) (Nat.le_refl _) (Nat.le_trans (z8q d) (zlb (jd b))) (X':=(cut s 0 (↑s.length:Int))) rfl fun f g e=>?_
 have h:VRep (tSl true kA2tInti64) R f (cut s 0 (↑s.length:Int)):=z2e g (e.trans (zi9 d).symm);refine zl f (zg (qo ?_));obtain rfl:=Option.some.inj c;refine qc (D:=[]) (J:=[]) (rs:=[.tmp 2]) (vs:=[f]) (RH.le.refl _) rfl rfl ⟨rfl,trivial⟩ ?_;exact⟨rfl,h⟩
theorem zpn:Enters prog 56:=enters_of func56 rfl (by kernel_rfl)
theorem z1b{N:Nat}{R:RH}{m:Mach}{t:Value}(u:VRep (qm false false) R t m){r:(List (Int×Int))}(d:ae N m=some r):CallP prog 38 #[t] R (fun v R'=>VRep (tSl true kA2tInti64) R' v r):=by
 refine qw (args:=[t]) func38 rfl rfl fun A=>?_;rw [ae] at d;refine zq (w9 (T:=(qm false false)) rfl rfl rfl u fun v1 R3 w h5 h2=>?_);refine zl vs0 (jh (wh rfl zpp fun E=>?_));refine zg (zy (zq (zz (je z00 rfl rfl h5 (u.mono w)) ?_)));obtain⟨y8,c9,d⟩:=zi d
 refine jb rfl zqc rfl (zaa (u.mono w) c9) fun aD aE F U=>?_;obtain⟨aF,rfl,V⟩:=U;refine zg (qp (z2k ?_));obtain⟨W,Z,d⟩:=zi d
 refine zky (Oc:=[emp,box E [vs0] 34]) (Or:=A) _ (fun(s:List (Int×Int)) R O=> ∃ (e:Value) (f:Frag),(∃ J,O.Perm (J++[box E [e] 34,f]))∧ORep kA2tInti64 R f e s∧True) (fun(s:List (Int×Int)) (c:Code) R O=>False) _ _ rfl zq8 (z9c (N:=N) V) (List.Perm.refl _) (by decide) (by rintro _ _ _ rfl;rfl) (by rintro s R2 R3 O2 n ⟨e,f,G,o,_⟩;exact⟨e,f,G,o.mono n,trivial⟩) (fun _ _ _ _ _ _ h=>h) (fun _ _ _ _ _ h=>h.elim) ⟨vs0,emp,⟨[],(pk 1 rfl (pk 0 rfl (List.Perm.refl _)))⟩,(z0t (T:=kA2tInti64)),trivial⟩ Z ?_ ?_ ?_
 rintro a aa aG aH av aI aw ax ay H ⟨e,f,⟨_,G⟩,o,_⟩ p aJ;have b:=p;clear p;(try dsimp only at b);refine zdu (zku G) ?_;obtain rfl:=H;refine zq (wh rfl zpz fun j=>?_);refine jm (i:=0) (vs:=[(vi a.1.1),(vi a.1.2)]) zpb rfl rfl rfl rfl rfl rfl (zt rfl (zt rfl jq)) ?_
 refine zg (qd (wh rfl z8m fun k=>?_));refine jm (i:=0) (vs:=[(vi a.2.to),(vi a.2.out)]) z1u rfl rfl rfl rfl rfl rfl (zt rfl (zt rfl jq)) ?_;refine zg ?_
 refine⟨rfl,rfl,(RH.le.refl _),[box k [(vi a.2.to),(vi a.2.out)] 40,box j [(vi a.1.1),(vi a.1.2)] 42,box E [e] 34,f],List.Perm.refl _,fun aK=>?_⟩;refine qp (zy ?_);obtain⟨x,ab,b⟩:=zi b
 refine ou 3 [] [phX (.agg #[(vi a.2.to),(vi a.2.out)]),phX (qx x),phX (.bool (decide (a.2.to=x.to∧a.2.out=x.out)))] mixed (by kernel_rfl) (df ⟨zf,zf,zf,trivial⟩) ⟨?_,?_,?_,trivial⟩ fun aL g=>?_;intro l aM n ha hd;exact ze rfl rfl rfl (zh (qa (i:=0) zaq z1u (ha 5 rfl) rfl rfl rfl))
 intro l aO n ha hd;exact ze rfl rfl rfl (qj (vs:=[]) zoc rfl (z4g  ab) (fun _ _ h=>h));rintro l aP n ha ⟨d0,d1,_⟩;exact ze rfl rfl rfl (zh (z7m zcq (d0 rfl) (d1 rfl)));intro aS ad aT af aU ag;obtain rfl:=Eq.symm ad;obtain rfl:=Eq.symm af;obtain rfl:=Eq.symm ag;refine zg (qb rfl b (fun b=>?_) (fun b=>?_))
 refine qd (zz (j5 (i:=2) zog rfl rfl rfl) (zz (qa (i:=1) zq9 zpb rfl rfl rfl rfl) (z0k (T:=kA2tInti64) (X:=([((a.1.1,a.1.2):(Int×Int))]:List (Int×Int))) (ps:=[(0,(.agg #[(vi a.1.1),(vi a.1.2)]))]) (css:=[[(vi a.1.1),(vi a.1.2)]]) rfl underlying34 zop rfl rfl (gp ⟨⟨_,_,rfl,rfl,rfl⟩,trivial⟩) rfl rfl (by decide) fun ah aV y ai=>?_)))
 refine o7 (i:=0) rfl ai fun aj q ak=>?_;have al:VRep (tSl true kA2tInti64) aj ah ([((a.1.1,a.1.2):(Int×Int))]:List (Int×Int)):=(z2e ak y);obtain⟨I,b⟩:=zk b
 refine lm (i:=3) (X:=aa) (Y:=([((a.1.1,a.1.2):(Int×Int))]:List (Int×Int))) rfl underlying34 zop rfl rfl rfl (o.mono (g.trans q)) (jd (Sub.v (B:=(tSl false kA2tInti64)) (ut Sub.refl (fun _=>rfl)) al)) I.1 I.2 fun z K C=>?_
 refine jm (i:=2) (vs:=[z]) zpr rfl rfl (z0q C) rfl rfl rfl (zt (au C) jq) ?_;refine zg ?_;obtain⟨rfl,rfl⟩:=Prod.mk.inj (Option.some.inj b)
 exact⟨rfl,(g.trans q),[box k [(vi a.2.to),(vi a.2.out)] 40,box j [(vi a.1.1),(vi a.1.2)] 42,box E [z] 34,K],List.Perm.refl _,rfl,⟨z,K,⟨[box k [(vi a.2.to),(vi a.2.out)] 40,box j [(vi a.1.1),(vi a.1.2)] 42],(List.Perm.refl _)⟩,C,trivial⟩⟩;refine qg ?_
 obtain⟨rfl,rfl⟩:=Prod.mk.inj (Option.some.inj b)
 exact⟨rfl,g,[box k [(vi a.2.to),(vi a.2.out)] 40,box j [(vi a.1.1),(vi a.1.2)] 42,box E [e] 34,f],List.Perm.refl _,rfl,⟨e,f,⟨[box k [(vi a.2.to),(vi a.2.out)] 40,box j [(vi a.1.1),(vi a.1.2)] 42],(List.Perm.refl _)⟩,(o.mono g),trivial⟩⟩
 rintro aW aX az L ⟨M,aY,⟨_,G⟩,am,_⟩;refine⟨_,_,G,?_⟩;refine zq (zz (j5 (i:=0) zog rfl rfl rfl) (o7 (i:=1) rfl am fun an P ao=>?_));have ap:VRep (tSl false kA2tInti64) an M W:=(z5t ao);obtain⟨aZ,aq,d⟩:=zi d;refine jb rfl zpn rfl (z8b ap aq) fun Q a0 S ar=>?_
 refine zl Q (zg (qo ?_));obtain rfl:=Option.some.inj d;refine qc (D:=[]) (J:=[box E [M] 34]) (rs:=[.tmp 2]) (vs:=[Q]) ((((w.trans F).trans L).trans P).trans S) rfl rfl ⟨rfl,trivial⟩ ?_;exact⟨rfl,ar⟩;exact fun _ _ _ _ _ h=>h.elim
theorem zni:Enters prog 38:=enters_of func38 rfl (by kernel_rfl)
theorem z0a{N:Nat}{R:RH}{m:Mach}{e:Value}(d:VRep (qm false false) R e m){r:Bool×Int}(a:ol N m=some r):CallP prog 11 #[e] R (fun v R'=>v= .tuple #[(.bool r.1),(vi r.2)]):=by
 refine qw (args:=[e]) func11 rfl rfl fun A=>?_;rw [ol] at a;refine zq (w9 (T:=(qm false false)) rfl rfl rfl d fun s t c k u=>?_);refine zl (.bool false) (zl (vi 0) (zg (zy (zq (zz (je z00 rfl rfl k (d.mono c)) ?_)))));obtain⟨f,l,a⟩:=zi a
 refine jb rfl zb9 rfl (gq (d.mono c) l) fun w n b o=>?_;obtain rfl:=o;refine zl (vi f) (jh (zo (vi f) (zz (jk rfl rfl) (zg (qb rfl a (fun a=>?_) (fun a=>?_))))));refine zq (zo (vi f) (zl (.bool false) (zl (vi f) (zg (qo ?_)))));obtain rfl:=Option.some.inj a
 refine qc (D:=[]) (J:=[]) (rs:=[.tmp 2,.tmp 3]) (vs:=[(.bool false),(vi f)]) (c.trans b) rfl rfl ⟨rfl,rfl,trivial⟩ ?_;exact⟨rfl,rfl⟩;refine qg (zq (zz (je z00 rfl rfl (k.mono b) (d.mono (c.trans b))) ?_));obtain⟨g,i,a⟩:=zi a
 refine jb rfl zni rfl (z1b (d.mono (c.trans b)) i) fun p q h j=>?_;refine zz (ql rfl underlying34 rfl (jd j)) (zz (wm rfl rfl) (zl (.bool (decide ((↑g.length:Int)=0))) (zl (vi 0) (zg (qo ?_)))));obtain rfl:=Option.some.inj a
 refine qc (D:=[]) (J:=[]) (rs:=[.tmp 2,.tmp 3]) (vs:=[(.bool (decide ((↑g.length:Int)=0))),(vi 0)]) ((c.trans b).trans h) rfl rfl ⟨rfl,rfl,trivial⟩ ?_;exact⟨rfl,rfl⟩
theorem zmu:Enters prog 11:=enters_of func11 rfl (by kernel_rfl)
theorem zo4:ZeroOk prog 4 fe false 1:=by
 obtain⟨i,zv,hi,a,c,d,f⟩:=z2r (P:=prog) (e:=4) (zv:=(.bool false)) (k:=1) (b:=1) (by kernel_rfl);exact⟨i,zv,hi,a,c,d,fun R=>by subst f;exact rfl⟩
theorem zq4: ∀ w,∃ z,(zeroValue 77).run prog w= .ok z w∧z.cells=([.slice none 0 0]:List Value).toArray:=fun w=>⟨vs0,by kernel_rfl,rfl⟩
theorem zqe: ∀ w,(sizeOf 77).run prog w= .ok 1 w:=fun w=>by kernel_rfl
theorem zq0: ∀ w,∃ z,(zeroValue 78).run prog w= .ok z w∧z.cells=([.nilFunc]:List Value).toArray:=fun w=>⟨.nilFunc,by kernel_rfl,rfl⟩
theorem zpw: ∀ w,(sizeOf 78).run prog w= .ok 1 w:=fun w=>by kernel_rfl
theorem zoo: ∀ w,(isAgg 78).run prog w= .ok false w:=fun w=>by kernel_rfl
theorem znp: ∀ w,(isAgg 77).run prog w= .ok false w:=fun w=>by kernel_rfl
theorem zgq:SlOk prog 77 4 fe:=⟨underlying77,ty4⟩
theorem zoy:Enters prog 39:=enters_of func39 rfl (by kernel_rfl)
theorem z4y{N:Nat}(F:Nat): ∀ {R:RH} {s:Int} {a:Nat} {p0_:List Bool} {e:Value} {fJ:Frag} (f:ORep fe R fJ e p0_) {p1_:Mach} {d:Value} (k:PRep (qm false false) R d p1_) {b:Nat} {r:List Bool} (c:yz N F s p0_ p1_=some r),CallG prog 39 #[(vi s),(.pointer (some ⟨a,0,none⟩)),d,(.pointer (some ⟨b,0,none⟩))] R [box a [e] 77,fJ,box b [.func (.func 39) #[] #[(.pointer (some ⟨a,0,none⟩)),d,(.pointer (some ⟨b,0,none⟩))]] 78] (fun v R' O'=> ∃ l m,v= .tuple #[]∧O'=[box a [l] 77,m,box b [.func (.func 39) #[] #[(.pointer (some ⟨a,0,none⟩)),d,(.pointer (some ⟨b,0,none⟩))]] 78]∧ORep fe R' m l r):=by
  induction F with
  |zero=>intros;rename_i c;exact jv c
  |succ F ih=>
    intro R s a p0_ e fJ f p1_ d k b r c
    refine z1j (args:=[(vi s),(.pointer (some ⟨a,0,none⟩)),d,(.pointer (some ⟨b,0,none⟩))]) func39 rfl rfl fun A=>?_
    rw [yz] at c
    refine zy ?_
    refine zy ?_
    refine qd ?_
    refine qi (v:=(vi s)) rfl (z8 rfl) ?_
    refine qi rfl (wm rfl rfl) ?_
    refine qi (v:=(.bool (decide (s=(-1))))) rfl (z8 rfl) ?_
    refine zx rfl rfl rfl rfl (fun o=>zn (v:=e) (j5 (i:=0) znp rfl rfl rfl)) fun v7 h8=>?_
    refine zx rfl rfl rfl rfl (fun o=>zn (v:=(vi s)) (z8 rfl)) fun v9 G=>?_
    obtain⟨q,c⟩:=zk c
    refine zx rfl rfl rfl rfl (fun o=>z8e (i:=s.toNat) zgq (h8.1 (za rfl o)) f (zw (G.1 (za rfl o)) (q (za rfl o)).1) (j4 (q (za rfl o)))) fun ae H=>?_
    refine zx rfl rfl rfl rfl (fun o=>zn (ze8 (zfl (i:=s.toNat) (j:=1) ty4 f rfl rfl (H.1 (za rfl o)) (j4 (q (za rfl o)))))) fun af I=>?_
    refine qi rfl (jg rfl rfl (fun hb=>(I.1 (za rfl hb)))) ?_
    refine zg ?_
    refine qb rfl c (fun c=>?_) (fun c=>?_)
    · refine qo ?_
      obtain rfl:=Option.some.inj c
      refine z0e (D:=[]) (J:=[]) (O':=[box a [e] 77,fJ,box b [(.func (.func 39) #[] #[(.pointer (some ⟨a,0,none⟩)),d,(.pointer (some ⟨b,0,none⟩))])] 78]) (rs:=[]) (vs:=[]) (RH.le.refl _) ((pk 0 rfl (pk 0 rfl (pk 0 rfl (List.Perm.refl _))))) rfl trivial ?_
      exact⟨e,fJ,rfl,rfl,f⟩
    · refine qg ?_
      refine zy ?_
      refine qd ?_
      refine zz (j5 (i:=0) znp rfl rfl rfl) ?_
      refine zo (vi s) ?_
      obtain⟨t,c⟩:=zk c
      refine zam (i:=s.toNat) rfl zgq rfl f (zw rfl t.1) (j4 t) fun ah K=>?_
      refine zah (i:=s.toNat) (j:=1) ty4 f rfl rfl K (j4 t) rfl (z06.2 rfl) fun L M=>?_
      refine zg ?_
      refine zy ?_
      refine qd ?_
      refine kg rfl ku kw rfl k fun ai O=>?_
      refine qz rfl lq rfl O fun aj P=>?_
      refine zo (vi s) ?_
      obtain⟨x,c⟩:=zk c
      refine vo (i:=s.toNat) rfl z2f rfl (jd P) (zw rfl x.1) (j4 x) fun ak Q=>?_
      refine qz rfl z1w rfl Q fun al y=>?_
      refine zz (ql rfl underlying41 rfl (jd y)) ?_
      refine zo (vi 0) ?_
      refine zg ?_
      refine qp ?_
      refine uz (γ:=Nat×Int×(List Bool)×Value×Frag) (rs [6,7,24,33]) (fun g=>[(24,(vi g.2.1))]) (fun g=>[box b [(.func (.func 39) #[] #[(.pointer (some ⟨a,0,none⟩)),d,(.pointer (some ⟨b,0,none⟩))])] 78,box a [g.2.2.2.1] 77,g.2.2.2.2]++A) (fun g R=>xz N (yz N F) s p1_ g.1 g.2.1 g.2.2.1=some r∧ORep fe R g.2.2.2.2 g.2.2.2.1 g.2.2.1∧True) (fun g=>g.1) (N,0,(up p0_ s true),e,L) ⟨[],(pk 2 rfl (pk 0 rfl (pk 0 rfl (List.Perm.refl _))))⟩ ⟨c,M,trivial⟩ ?_
      clear c
      rintro⟨p,h,S,u,w⟩ am an n ⟨c,z,_⟩
      rcases p with _|p
      · exact jv c
      replace c:xz N (yz N F) s p1_ (p+1) h S=some r:=c;rw [xz] at c
      refine zy ?_
      refine qd ?_
      refine zz (jl rfl rfl) ?_
      refine zg ?_
      refine zy ?_
      refine qb rfl c (fun c=>?_) (fun c=>?_)
      · refine qg ?_
        refine zy ?_
        refine qp ?_
        refine zy ?_
        refine qd ?_
        obtain⟨B,c⟩:=zk c
        refine vo (i:=h.toNat) rfl z5l rfl (jd (y.mono n)) (zw rfl B.1) (j4 B) fun ao T=>?_
        refine qz rfl z2v rfl T fun ap U=>?_
        obtain rfl:=uy.1 U
        refine wh rfl z8m fun C=>?_
        refine jm (i:=0) (vs:=[(vi ((ix (ix p1_.rows s) h).to)),(vi ((ix (ix p1_.rows s) h).out))]) z1u rfl rfl rfl rfl rfl rfl (zt rfl (zt rfl jq)) ?_
        refine zg ?_
        refine qd ?_
        refine zz (j5 (i:=1) zoo rfl rfl rfl) ?_
        refine zz (j6 z4w rfl) ?_
        refine zz (j5 (i:=0) ag3 rfl rfl rfl) ?_
        obtain⟨V,W,c⟩:=zi c
        refine z9j (Oc:=[box a [u] 77,w,box b [(.func (.func 39) #[] #[(.pointer (some ⟨a,0,none⟩)),d,(.pointer (some ⟨b,0,none⟩))])] 78]) (Or:=[box C [(vi ((ix (ix p1_.rows s) h).to)),(vi ((ix (ix p1_.rows s) h).out))] 40]++A) (cs:=[(.pointer (some ⟨a,0,none⟩)),d,(.pointer (some ⟨b,0,none⟩))]) (vs:=[(vi ((ix (ix p1_.rows s) h).to))]) rfl zoy rfl rfl ((pk 2 rfl (pk 2 rfl (pk 1 rfl (pk 0 rfl (List.Perm.refl _)))))) (ih z (k.mono n) W) fun aq ar ac E X=>?_
        obtain⟨Y,Z,rfl,rfl,aa⟩:=X
        refine zg ?_
        refine qd ?_
        obtain⟨ab,c⟩:=zk c
        refine zz (kz rfl rfl ab) ?_
        refine zo (vi (h+1)) ?_
        refine zg ?_
        exact⟨dkt,E,yo,(p,h+1,V,Y,Z),Nat.lt_succ_self _,⟨rfl,trivial⟩,⟨[box C [(vi ((ix (ix p1_.rows s) h).to)),(vi ((ix (ix p1_.rows s) h).out))] 40],(pk 3 rfl (pk 2 rfl (pk 0 rfl (pk 0 rfl (List.Perm.refl _)))))⟩,c,aa,trivial⟩
      · refine vz ?_
        show zby _ _ _ _ _ .ret _ [] _ _
        obtain rfl:=Option.some.inj c
        refine z0e (D:=[]) (J:=[]) (O':=[box a [u] 77,w,box b [(.func (.func 39) #[] #[(.pointer (some ⟨a,0,none⟩)),d,(.pointer (some ⟨b,0,none⟩))])] 78]) (rs:=[]) (vs:=[]) n ((pk 1 rfl (pk 1 rfl (pk 0 rfl (List.Perm.refl _))))) rfl trivial ?_
        exact⟨u,w,rfl,rfl,z⟩
theorem z6o{N:Nat}{R:RH}{s:Int}{a:Nat}{p0_:List Bool}{d:Value}{fJ:Frag}(g:ORep fe R fJ d p0_){p1_:Mach}{c:Value}(h:PRep (qm false false) R c p1_){b:Nat}{r:List Bool}(i:yz N N s p0_ p1_=some r):CallG prog 39 #[(vi s),(.pointer (some ⟨a,0,none⟩)),c,(.pointer (some ⟨b,0,none⟩))] R [box a [d] 77,fJ,box b [.func (.func 39) #[] #[(.pointer (some ⟨a,0,none⟩)),c,(.pointer (some ⟨b,0,none⟩))]] 78] (fun v R' O'=> ∃ e f,v= .tuple #[]∧O'=[box a [e] 77,f,box b [.func (.func 39) #[] #[(.pointer (some ⟨a,0,none⟩)),c,(.pointer (some ⟨b,0,none⟩))]] 78]∧ORep fe R' f e r):=z4y N g h i
theorem z8l{N:Nat}{R:RH}{s:(List Bool)}{c:Value}(h:VRep (tSl false fe) R c s){f:Bool}{r:Int}(b:z08 N s f=some r):CallP prog 57 #[c,(.bool f)] R (fun v R'=>v=(vi r)):=by
 refine qw (args:=[c,(.bool f)]) func57 rfl rfl fun A=>?_;rw [z08] at b;refine zq (zl (vi 0) (zg ?_));obtain⟨l,a,b⟩:=zi b;refine jy (γ:=Unit) (rs [4,19]) (fun g=>[]) (fun g=>[]++A) (fun g R=>l=Ex.go g∧True) ?_ ?_
 refine zq (zo c (zz (ql rfl underlying77 rfl (jd h)) (zo (vi 0) (zg (qp (uz (γ:=Nat×Int) (rs [4,6,8,19]) (fun g=>[(8,(vi g.2))]) (fun g=>[]++A) (fun g R=>gu N s f g.1 g.2=some l∧True) (fun g=>g.1) (N,0) prm ⟨a,trivial⟩ ?_))))));clear a;rintro⟨k,d⟩ q x e ⟨a,_⟩;rcases k with _|k
 exact jv a;replace a:gu N s f (k+1) d=some l:=a;rw [gu] at a;refine zq (zz (jl rfl rfl) (zg (zy (qb rfl a (fun a=>?_) (fun a=>?_)))));refine qg (zy (qp (zq (zo (vi d) (zl (vi d) (jh (zo (.bool f) (zo c (zo (vi d) ?_)))))))))
 obtain⟨j,a⟩:=zk a;refine vo (i:=d.toNat) rfl zgq rfl (jd (h.mono e)) (zw rfl j.1) (j4 j) fun t m=>?_;refine qz rfl ty4 rfl m fun u n=>?_;obtain rfl:=z06.1 n;refine zz (zf8 underlying4 rfl rfl) (zg (qb rfl a (fun a=>?_) (fun a=>?_)))
 refine zq (zo (vi d) (zl (vi d) (zg (qo ?_))));replace b:=z0d a b;obtain rfl:=Option.some.inj b;refine qc (D:=[]) (J:=[]) (rs:=[.tmp 4]) (vs:=[(vi d)]) e rfl rfl ⟨rfl,trivial⟩ ?_;exact⟨rfl,rfl⟩;refine qg (qd ?_);obtain⟨o,a⟩:=zk a
 refine zz (kz rfl rfl o) (zo (vi (d+1)) (zg ?_));exact⟨dkt,(RH.le.refl _),yo,(k,d+1),Nat.lt_succ_self _,⟨rfl,trivial⟩,prm,a,trivial⟩;refine vz ?_;exact⟨dkt,e,yo,(),trivial,prm,(Option.some.inj a).symm,trivial⟩;rintro y w z p ⟨rfl,_⟩;replace b:=z2c b;refine zq (zl (vi (-1)) (zg (qo ?_)))
 obtain rfl:=Option.some.inj b;refine qc (D:=[]) (J:=[]) (rs:=[.tmp 4]) (vs:=[(vi (-1))]) p rfl rfl ⟨rfl,trivial⟩ ?_;exact⟨rfl,rfl⟩
theorem zpu:Enters prog 57:=enters_of func57 rfl (by kernel_rfl)
theorem z6n{N:Nat}{R:RH}{s:(List Bool)}{a:Value}(d:VRep (tSl false fe) R a s){c:Bool}{r:Bool}(b:l8 N s c=some r):CallP prog 40 #[a,(.bool c)] R (fun v R'=>v=(.bool r)):=by
 refine qw (args:=[a,(.bool c)]) func40 rfl rfl fun A=>?_;rw [l8] at b;refine zq (zl (.bool false) (jh (zo a (zo (.bool c) ?_))));obtain⟨f,g,b⟩:=zi b;refine jb rfl zpu rfl (z8l d g) fun i j e h=>?_;obtain rfl:=h
 refine zz (z04 rfl rfl) (zl (.bool (decide (0≤f))) (zg (qo ?_)));obtain rfl:=Option.some.inj b;refine qc (D:=[]) (J:=[]) (rs:=[.tmp 4]) (vs:=[(.bool (decide (0≤f)))]) e rfl rfl ⟨rfl,trivial⟩ ?_;exact⟨rfl,rfl⟩
theorem zpj:Enters prog 40:=enters_of func40 rfl (by kernel_rfl)
theorem z1c{N:Nat}{R:RH}{m:Mach}{h:Value}(j:VRep (qm false false) R h m){r:Bool×Int}(a:ah N m=some r):CallP prog 12 #[h] R (fun v R'=>v= .tuple #[(.bool r.1),(vi r.2)]):=by
 refine qw (args:=[h]) func12 rfl rfl fun A=>?_;rw [ah] at a;refine zq (w9 (T:=(qm false false)) rfl rfl rfl j fun o Z f O L=>?_);refine zl (.bool false) (zl (vi 0) (zg (zy (zq (zz (je z00 rfl rfl O (j.mono f)) ?_)))));obtain⟨p,P,a⟩:=zi a
 refine jb rfl zb9 rfl (gq (j.mono f) P) fun v8 Q e S=>?_;obtain rfl:=S;refine zl (vi p) (jh (zo (vi p) (zz (jk rfl rfl) (zg (qb rfl a (fun a=>?_) (fun a=>?_))))));refine zq (zo (vi p) (zl (.bool false) (zl (vi p) (zg (qo ?_)))));obtain rfl:=Option.some.inj a
 refine qc (D:=[]) (J:=[]) (rs:=[.tmp 2,.tmp 3]) (vs:=[(.bool false),(vi p)]) (f.trans e) rfl rfl ⟨rfl,rfl,trivial⟩ ?_;exact⟨rfl,rfl⟩;refine qg (zq (kg rfl ku kw rfl (L.mono e) fun U w=>?_));refine qz rfl lq rfl w fun V x=>?_;refine zz (ql rfl underlying25 rfl (jd x)) ?_
 obtain⟨g,a⟩:=zk a;refine zed (T:=fe) (m:=(↑m.rows.length:Int).toNat) (c:=(↑m.rows.length:Int).toNat) rfl underlying77 zo4 (zw rfl g.1) (zw rfl g.1) (Nat.le_refl _) (zbt g) (zch g) fun q y z k=>?_;refine wh rfl zq4 fun b=>?_
 refine jm (i:=0) (vs:=[q]) zqe rfl rfl (z0q k) rfl rfl rfl (zt (au k) jq) ?_;refine jh (wh rfl zq0 fun d=>?_)
 refine jh (zz (z3l (fs:=[]) (cs:=[(.pointer (some ⟨b,0,none⟩)),o,(.pointer (some ⟨d,0,none⟩))]) rfl rfl) (jm (i:=0) (vs:=[(.func (.func 39) #[] #[(.pointer (some ⟨b,0,none⟩)),o,(.pointer (some ⟨d,0,none⟩))])]) zpw rfl rfl rfl rfl rfl rfl (zt rfl jq) ?_));refine jh (zz (j5 (i:=0) zoo rfl rfl rfl) ?_)
 obtain⟨B,C,a⟩:=zi a
 refine z9j (Oc:=[box b [q] 77,y,box d [(.func (.func 39) #[] #[(.pointer (some ⟨b,0,none⟩)),o,(.pointer (some ⟨d,0,none⟩))])] 78]) (Or:=[]++A) (cs:=[(.pointer (some ⟨b,0,none⟩)),o,(.pointer (some ⟨d,0,none⟩))]) (vs:=[(vi 0)]) rfl zoy rfl rfl ((pk 1 rfl (pk 1 rfl (pk 0 rfl (List.Perm.refl _))))) (z6o k (L.mono e) C) fun W X M s E=>?_
 obtain⟨l,F,rfl,rfl,G⟩:=E;refine jh (zz (j5 (i:=0) znp rfl rfl rfl) ?_);obtain⟨n,H,a⟩:=zi a;refine z6s (cs:=[]) (vs:=[l,(.bool false)]) (φ:=fun v=>v=(.bool n)) rfl zpj rfl rfl (fun I t u=>z6n (z5t ((z7u 1 rfl G t u):VRep (ww fe) I l B)) H) fun Y K=>?_;obtain rfl:=K
 refine zz (ik rfl) (zl (.bool (!n)) (zl (vi 0) (zg (qo ?_))));obtain rfl:=Option.some.inj a
 refine qc (D:=[]) (J:=[box b [l] 77,F,box d [(.func (.func 39) #[] #[(.pointer (some ⟨b,0,none⟩)),o,(.pointer (some ⟨d,0,none⟩))])] 78]) (rs:=[.tmp 2,.tmp 3]) (vs:=[(.bool (!n)),(vi 0)]) ((f.trans e).trans s) rfl rfl ⟨rfl,rfl,trivial⟩ ?_;exact⟨rfl,rfl⟩
theorem znn:Enters prog 12:=enters_of func12 rfl (by kernel_rfl)
theorem z0p{N:Nat}{R:RH}{m:Mach}{f:Value}(i:VRep (qm false false) R f m){r:Int×Int}(b:mo N m=some r):CallP prog 13 #[f] R (fun v R'=>v= .tuple #[(vi r.1),(vi r.2)]):=by
 refine qw (args:=[f]) func13 rfl rfl fun A=>?_;rw [mo] at b;refine zq (w9 (T:=(qm false false)) rfl rfl rfl i fun v1 R3 g H I=>?_);refine zl (vi 0) (zl (vi 0) (zg (zy (zq (zz (je z00 rfl rfl H (i.mono g)) ?_)))));obtain⟨k,O,b⟩:=zi b
 refine jb rfl zb9 rfl (gq (i.mono g) O) fun v8 P c Q=>?_;obtain rfl:=Q;refine zl (vi k) (jh (zo (vi k) (zz (jk rfl rfl) (zg (qb rfl b (fun b=>?_) (fun b=>?_))))));refine zq (zo (vi k) (zl (vi 0) (zl (vi k) (zg (qo ?_)))));obtain rfl:=Option.some.inj b
 refine qc (D:=[]) (J:=[]) (rs:=[.tmp 2,.tmp 3]) (vs:=[(vi 0),(vi k)]) (g.trans c) rfl rfl ⟨rfl,rfl,trivial⟩ ?_;exact⟨rfl,rfl⟩;refine qg (zy ?_);obtain⟨p,b⟩:=zk b;obtain⟨j,q,b⟩:=zi b;obtain⟨s,b⟩:=zk b
 refine ou 12 [] [phP (tSl false (tSl false kEdge)) m.rows,phR (tSl false (tSl false kEdge)) m.rows,phX (vi (↑m.rows.length:Int)),phP (j3 .i64) m.inputs,phX (vi m.inputs),phX (vi ((↑m.rows.length:Int)*m.inputs)),phX f,phR (tSl true kA2tInti64) j,phX (vi (↑j.length:Int)),phX (vi (((↑m.rows.length:Int)*m.inputs)-(↑j.length:Int))),phX (vi (((↑m.rows.length:Int)*m.inputs)-(↑j.length:Int))),phX (vi 0)] mixed (by kernel_rfl) (df ⟨xg,gm,zf,xg,zf,zf,zf,gm,zf,zf,zf,zf,trivial⟩) ⟨?_,?_,?_,?_,?_,?_,?_,?_,?_,?_,?_,?_,trivial⟩ fun S n=>?_
 intro l U a e K;exact ze rfl rfl rfl (mr ku kw (e 1 rfl) ((I.mono c).mono a));rintro l V a e ⟨d,_⟩;exact ze rfl rfl rfl (uk lq rfl (d rfl));rintro l W a e ⟨d,_⟩;exact ze rfl rfl rfl (zh (ql rfl underlying25 rfl (jd (d rfl))));intro l X a e K
 exact ze rfl rfl rfl (mr ma p9 (e 1 rfl) ((I.mono c).mono a));rintro l Y a e ⟨d,_⟩;exact ze rfl rfl rfl (gz (uk ty3 rfl (d rfl)) (fun _ _ h=>ko.1 h));rintro l Z a e ⟨d,o,_⟩;exact ze rfl rfl rfl (zh (z5r (d rfl) (o rfl) p));intro l aa a e K
 exact ze rfl rfl rfl (zh (je z00 rfl (e 1 rfl) ((H.mono c).mono a) ((i.mono (g.trans c)).mono a)));rintro l ab a e ⟨d,_⟩;have t:l 16=f:=d rfl;exact ze rfl rfl rfl (qj (vs:=[f]) zni (by simp only [List.map,ev,t]<;>rfl) (z1b ((i.mono (g.trans c)).mono a) q) (fun _ _ h=>h))
 rintro l ac a e ⟨d,_⟩;exact ze rfl rfl rfl (zh (ql rfl underlying34 rfl (jd (d rfl))));rintro l ad a e ⟨d,o,_⟩;exact ze rfl rfl rfl (zh (z9n (d rfl) (o rfl) s));rintro l L a e ⟨d,o,d2,d3,d4,d5,d6,d7,d8,d9,u,w,_⟩;exact ze rfl rfl rfl (zh (ui (d rfl)))
 rintro l M a e ⟨d,o,d2,d3,d4,d5,d6,d7,d8,d9,u,w,_⟩;exact ze rfl rfl rfl (zh (ui rfl));intro am an ao ap aq x ar au av y aw z ax B ay az aA C aB E aC F aD G;obtain rfl:=Eq.symm x;obtain rfl:=Eq.symm y;obtain rfl:=Eq.symm z;obtain rfl:=Eq.symm B;obtain rfl:=Eq.symm C;obtain rfl:=Eq.symm E
 obtain rfl:=Eq.symm F;obtain rfl:=Eq.symm G;refine zg (qo ?_);obtain rfl:=Option.some.inj b;refine qc (D:=[]) (J:=[]) (rs:=[.tmp 2,.tmp 3]) (vs:=[(vi (((↑m.rows.length:Int)*m.inputs)-(↑j.length:Int))),(vi 0)]) ((g.trans c).trans n) rfl rfl ⟨rfl,rfl,trivial⟩ ?_;exact⟨rfl,rfl⟩
theorem znw:Enters prog 13:=enters_of func13 rfl (by kernel_rfl)
theorem z1f{N:Nat}{R:RH}{m:Mach}{e:Value}(d:VRep (qm false false) R e m){r:(List (Int×Int))×Int}(a:aj N m=some r):CallP prog 14 #[e] R (fun v R'=> ∃ k,v= .tuple #[k,(vi r.2)]∧VRep (tSl true kA2tInti64) R' k r.1):=by
 refine qw (args:=[e]) func14 rfl rfl fun A=>?_;rw [aj] at a;refine zq (w9 (T:=(qm false false)) rfl rfl rfl d fun t u c l w=>?_);refine zl vs0 (zl (vi 0) (zg (zy (zq (zz (je z00 rfl rfl l (d.mono c)) ?_)))));obtain⟨g,n,a⟩:=zi a
 refine jb rfl zb9 rfl (gq (d.mono c) n) fun x o b p=>?_;obtain rfl:=p;refine zl (vi g) (jh (zo (vi g) (zz (jk rfl rfl) (zg (qb rfl a (fun a=>?_) (fun a=>?_))))));refine zq (zo (vi g) (zl vs0 (zl (vi g) (zg (qo ?_)))));obtain rfl:=Option.some.inj a
 refine qc (D:=[]) (J:=[]) (rs:=[.tmp 2,.tmp 3]) (vs:=[vs0,(vi g)]) (c.trans b) rfl rfl ⟨rfl,rfl,trivial⟩ ?_;exact⟨rfl,⟨vs0,rfl,z6t⟩⟩;refine qg (zq (zz (je z00 rfl rfl (l.mono b) (d.mono (c.trans b))) ?_));obtain⟨q,i,a⟩:=zi a
 refine jb rfl zni rfl (z1b (d.mono (c.trans b)) i) fun f s h j=>?_;refine zl f (zl (vi 0) (zg (qo ?_)));obtain rfl:=Option.some.inj a;refine qc (D:=[]) (J:=[]) (rs:=[.tmp 2,.tmp 3]) (vs:=[f,(vi 0)]) ((c.trans b).trans h) rfl rfl ⟨rfl,rfl,trivial⟩ ?_;exact⟨rfl,⟨f,rfl,j⟩⟩
theorem znr:Enters prog 14:=enters_of func14 rfl (by kernel_rfl)
theorem ky{N:Nat}{R:RH}{a:Int}{out:Int}{r:Edge}(b:ji N a out=some r):CallP prog 18 #[(vi a),(vi out)] R (fun v R'=>v=(qx r)):=by
 refine qw (args:=[(vi a),(vi out)]) func18 rfl rfl fun A=>?_;rw [ji] at b;refine zq (wh rfl z8m fun c=>?_)
 refine jh (zo (vi a) (zo (vi out) (zz (xm (ps:=[(0,(vi a)),(1,(vi out))]) (v:=(.agg #[(vi a),(vi out)])) rfl (fun w=>by kernel_rfl)) (jm (i:=0) (vs:=[(vi a),(vi out)]) z1u rfl rfl rfl rfl rfl rfl (zt rfl (zt rfl jq)) ?_))));refine zg (qo ?_)
 obtain rfl:=Option.some.inj b;refine qc (D:=[]) (J:=[box c [(vi a),(vi out)] 40]) (rs:=[.cell 4 40]) (vs:=[(.agg #[(vi a),(vi out)])]) (RH.le.refl _) rfl rfl ⟨⟨_,rfl,fun w d=>ay (i:=0) d rfl rfl zaq z1u rfl rfl⟩,trivial⟩ ?_;exact⟨rfl,rfl⟩
theorem z8w:Enters prog 18:=enters_of func18 rfl (by kernel_rfl)
theorem zq5:zdm prog 42:=zfi (e:=3) (by kernel_rfl) (by kernel_rfl) (by kernel_rfl) (fun w=>by kernel_rfl)
theorem zo3:ZeroOk prog 3 (j3 .i64) (0:Int) 8:=by
 obtain⟨i,zv,hi,a,c,d,f⟩:=z2r (P:=prog) (e:=3) (zv:=(vi 0)) (k:=1) (b:=8) (by kernel_rfl);exact⟨i,zv,hi,a,c,d,fun R=>by subst f;exact rfl⟩
theorem z0l{N:Nat}{R:RH}{m:Mach}{e:Value}(f:VRep (qm false false) R e m){s:Int}{r:Int}(a:iq N m s=some r):CallP prog 42 #[e,(vi s)] R (fun v R'=>v=(vi r)):=by
 refine qw (args:=[e,(vi s)]) func42 rfl rfl fun A=>?_;rw [iq] at a;refine zq (w9 (T:=(qm false false)) rfl rfl rfl f fun C E c n o=>?_);refine zl (vi 0) (zg (zy (zq (zz (je z00 rfl rfl n (f.mono c)) ?_))));obtain⟨g,p,a⟩:=zi a
 refine jb rfl zb9 rfl (gq (f.mono c) p) fun F q b t=>?_;obtain rfl:=t;refine zl (vi g) (jh (zo (vi g) (zz (jk rfl rfl) (zg (qb rfl a (fun a=>?_) (fun a=>?_))))));refine zq (zo (vi g) (zl (vi g) (zg (qo ?_))));obtain rfl:=Option.some.inj a
 refine qc (D:=[]) (J:=[]) (rs:=[.tmp 4]) (vs:=[(vi g)]) (c.trans b) rfl rfl ⟨rfl,trivial⟩ ?_;exact⟨rfl,rfl⟩;refine qg (zy (zq (qi (v:=(vi s)) rfl (z8 rfl) (qi rfl (jl rfl rfl) (qi (v:=(.bool (decide (s<0)))) rfl (z8 rfl) (zx rfl rfl rfl rfl (fun d=>zn (v:=(vi s)) (z8 rfl)) fun u h=>?_))))))
 refine zx rfl rfl rfl rfl (fun d=>kv ku kw rfl (o.mono b)) fun w i=>?_;refine zx rfl rfl rfl rfl (fun d=>ja lq rfl (i.1 (za rfl d))) fun x j=>?_;refine zx rfl rfl rfl rfl (fun d=>zn (ql rfl underlying25 rfl (jd (j.1 (za rfl d))))) fun y k=>?_
 refine zx rfl rfl rfl rfl (fun d=>zn (z04 (h.1 (za rfl d)) (k.1 (za rfl d)))) fun z l=>?_;refine qi rfl (jg rfl rfl (fun B=>(l.1 (za rfl B)))) (zg (qb rfl a (fun a=>?_) (fun a=>?_)));refine zq (zl (vi 1) (zg (qo ?_)));obtain rfl:=Option.some.inj a
 refine qc (D:=[]) (J:=[]) (rs:=[.tmp 4]) (vs:=[(vi 1)]) (c.trans b) rfl rfl ⟨rfl,trivial⟩ ?_;exact⟨rfl,rfl⟩;refine qg (zq (zl (vi 0) (zg (qo ?_))));obtain rfl:=Option.some.inj a;refine qc (D:=[]) (J:=[]) (rs:=[.tmp 4]) (vs:=[(vi 0)]) (c.trans b) rfl rfl ⟨rfl,trivial⟩ ?_;exact⟨rfl,rfl⟩
theorem zko:Enters prog 42:=enters_of func42 rfl (by kernel_rfl)
theorem z5u:SlOk prog 49 3 (j3 .i64):=⟨underlying49,ty3⟩
theorem z6x{N:Nat}{R:RH}{s:(List Int)}{c:Value}(k:VRep (tSl false (j3 .i64)) R c s){f:Int→Option Bool}{e:Value}(n:FOk1 prog R e (j3 .i64) fe f){r:Int}(b:l6 N s f=some r):CallP prog 62 #[c,e] R (fun v R'=>v=(vi r)):=by
 refine qw (args:=[c,e]) func62 rfl rfl fun A=>?_;rw [l6] at b;refine zq (zl (vi 0) (zg ?_));obtain⟨o,a,b⟩:=zi b;refine jy (γ:=Unit) (rs [4,19]) (fun g=>[]) (fun g=>[]++A) (fun g R=>o=Ex.go g∧True) ?_ ?_
 refine zq (zo c (zz (ql rfl underlying49 rfl (jd k)) (zo (vi 0) (zg (qp (uz (γ:=Nat×Int) (rs [4,6,8,19]) (fun g=>[(8,(vi g.2))]) (fun g=>[]++A) (fun g R=>yl N s f g.1 g.2=some o∧True) (fun g=>g.1) (N,0) prm ⟨a,trivial⟩ ?_))))));clear a;rintro⟨m,d⟩ y H h ⟨a,_⟩;rcases m with _|m
 exact jv a;replace a:yl N s f (m+1) d=some o:=a;rw [yl] at a;refine zq (zz (jl rfl rfl) (zg (zy (qb rfl a (fun a=>?_) (fun a=>?_)))));refine qg (zy (qp (zq (zo (vi d) (zl (vi d) (jh (zo e (zo c (zo (vi d) ?_)))))))))
 obtain⟨l,a⟩:=zk a;refine vo (i:=d.toNat) rfl z5u rfl (jd (k.mono h)) (zw rfl l.1) (j4 l) fun z p=>?_;refine qz rfl ty3 rfl p fun B q=>?_;obtain rfl:=ko.1 q;obtain⟨C,t,a⟩:=zi a;refine zbm rfl rfl rfl ((n.mono h) _ (RH.le.refl _) (ix s d) _ _ (ko.2 rfl) t) fun E F j u=>?_
 obtain rfl:=z06.1 u;refine zg (qb rfl a (fun a=>?_) (fun a=>?_));refine zq (zo (vi d) (zl (vi d) (zg (qo ?_))));replace b:=z0d a b;obtain rfl:=Option.some.inj b;refine qc (D:=[]) (J:=[]) (rs:=[.tmp 4]) (vs:=[(vi d)]) (h.trans j) rfl rfl ⟨rfl,trivial⟩ ?_;exact⟨rfl,rfl⟩
 refine qg (qd ?_);obtain⟨w,a⟩:=zk a;refine zz (kz rfl rfl w) (zo (vi (d+1)) (zg ?_));exact⟨dkt,j,yo,(m,d+1),Nat.lt_succ_self _,⟨rfl,trivial⟩,prm,a,trivial⟩;refine vz ?_;exact⟨dkt,h,yo,(),trivial,prm,(Option.some.inj a).symm,trivial⟩;rintro I G K x ⟨rfl,_⟩;replace b:=z2c b
 refine zq (zl (vi (-1)) (zg (qo ?_)));obtain rfl:=Option.some.inj b;refine qc (D:=[]) (J:=[]) (rs:=[.tmp 4]) (vs:=[(vi (-1))]) x rfl rfl ⟨rfl,trivial⟩ ?_;exact⟨rfl,rfl⟩
theorem zpk:Enters prog 62:=enters_of func62 rfl (by kernel_rfl)
theorem z5j{N:Nat}{R:RH}{s:(List Int)}{a:Value}(d:VRep (tSl false (j3 .i64)) R a s){f:Int→Option Bool}{b:Value}(e:FOk1 prog R b (j3 .i64) fe f){r:Bool}(c:av N s f=some r):CallP prog 58 #[a,b] R (fun v R'=>v=(.bool r)):=by
 refine qw (args:=[a,b]) func58 rfl rfl fun A=>?_;rw [av] at c;refine zq (zl (.bool false) (jh (zo a (zo b ?_))));obtain⟨h,i,c⟩:=zi c;refine jb rfl zpk rfl (z6x d e i) fun k l g j=>?_;obtain rfl:=j
 refine zz (z04 rfl rfl) (zl (.bool (decide (0≤h))) (zg (qo ?_)));obtain rfl:=Option.some.inj c;refine qc (D:=[]) (J:=[]) (rs:=[.tmp 4]) (vs:=[(.bool (decide (0≤h)))]) g rfl rfl ⟨rfl,trivial⟩ ?_;exact⟨rfl,rfl⟩
theorem zpv:Enters prog 58:=enters_of func58 rfl (by kernel_rfl)
theorem zb7{N:Nat}{R:RH}{c:Int}{p0_:Int}{a:Value}(b:PRep (j3 .i64) R a p0_){r:Bool}(d:z5s N c p0_=some r):CallP prog 59 #[(vi c),a] R (fun v R'=>v=(.bool r)):=by
 refine qw (args:=[(vi c),a]) func59 rfl rfl fun A=>?_;rw [z5s] at d;refine zq (zl (.bool false) (jh (qi (v:=(vi c)) rfl (z8 rfl) (qi rfl (jl rfl rfl) (qi (v:=(.bool (decide (c<0)))) rfl (z8 rfl) (zx rfl rfl rfl rfl (fun e=>zn (v:=(vi c)) (z8 rfl)) fun k h=>?_))))))
 refine zx rfl rfl rfl rfl (fun e=>zn (ni (ja ty3 rfl b))) fun l f=>?_;refine zx rfl rfl rfl rfl (fun e=>zn (z04 (h.1 (za rfl e)) (f.1 (za rfl e)))) fun i g=>?_;refine qi rfl (jg rfl rfl (fun j=>(g.1 (za rfl j)))) (qi (v:=(.bool ((decide (c<0))||(decide (p0_≤c))))) rfl (ui rfl) (zg (qo ?_)))
 obtain rfl:=Option.some.inj d;refine qc (D:=[]) (J:=[]) (rs:=[.tmp 3]) (vs:=[(.bool ((decide (c<0))||(decide (p0_≤c))))]) (RH.le.refl _) rfl rfl ⟨rfl,trivial⟩ ?_;exact⟨rfl,rfl⟩
theorem zqd:Enters prog 59:=enters_of func59 rfl (by kernel_rfl)
theorem z8p{N:Nat}{R:RH}{x:(List Int)}{b:Value}(e:VRep (tSl false (j3 .i64)) R b x){inputs:Int}{r:Int}(a:z2q N x inputs=some r):CallP prog 43 #[b,(vi inputs)] R (fun v R'=>v=(vi r)):=by
 refine qw (args:=[b,(vi inputs)]) func43 rfl rfl fun A=>?_;rw [z2q] at a;refine zq (z4k (T:=(j3 .i64)) rfl rfl (ko.2 rfl) fun i L c j=>?_)
 refine zl (vi 0) (zg (zy (zq (qi rfl (ni (ja ty3 rfl j)) (qi rfl (z0b rfl rfl) (qi (v:=(.bool (decide (16<inputs)))) rfl (z8 rfl) (zx rfl rfl rfl rfl (fun d=>zn (v:=b) (z8 rfl)) fun z k=>?_)))))))
 refine zx rfl rfl rfl rfl (fun d=>zn (ql rfl underlying49 (k.1 (za rfl d)) (jd (e.mono c)))) fun B l=>?_;refine zx rfl rfl rfl rfl (fun d=>zn (z0b (l.1 (za rfl d)) rfl)) fun C m=>?_;refine qi rfl (jg rfl rfl (fun n=>(m.1 (za rfl n)))) (zg (qb rfl a (fun a=>?_) (fun a=>?_)))
 refine zq (zl (vi 3) (zg (qo ?_)));obtain rfl:=Option.some.inj a;refine qc (D:=[]) (J:=[]) (rs:=[.tmp 4]) (vs:=[(vi 3)]) c rfl rfl ⟨rfl,trivial⟩ ?_;exact⟨rfl,rfl⟩
 refine qg (zy (zq (qi rfl (ni (ja ty3 rfl j)) (qi rfl (jl rfl rfl) (qi (v:=(.bool (decide (inputs<1)))) rfl (z8 rfl) (zx rfl rfl rfl rfl (fun d=>zn (v:=b) (z8 rfl)) fun E o=>?_))))))
 refine zx rfl rfl rfl rfl (fun d=>zn (v:=(.func (.func 59) #[] #[i])) (z3l (fs:=[]) (cs:=[i]) rfl rfl)) fun F p=>?_;obtain⟨q,s,a⟩:=zi a
 refine lg rfl rfl rfl rfl (fun d=>qj (vs:=[b,(.func (.func 59) #[] #[i])]) zpv (z1s (o.1 (za rfl d)) (z1s (p.1 (za rfl d)) rfl)) ((by have t:=(uq s (za rfl d));exact z5j (e.mono c) (zi5 (cs:=[i]) zqd fun M G O P y H I=>by obtain rfl:=ko.1 H;exact CallP.mono (zb7 (j.mono G) I) fun v Q _ K=>z06.2 K) t)) (fun _ _ h=>h)) fun u w f g=>?_
 replace g:phG (true&&((decide (inputs<1))==false)) (phX (.bool (q.getD default))) u w:=g;refine qi rfl (jg rfl rfl (fun n=>(g.1 (za rfl n)))) (zg (qb rfl a (fun a=>?_) (fun a=>?_)));refine zq (zl (vi 1) (zg (qo ?_)));obtain rfl:=Option.some.inj a
 refine qc (D:=[]) (J:=[]) (rs:=[.tmp 4]) (vs:=[(vi 1)]) (c.trans f) rfl rfl ⟨rfl,trivial⟩ ?_;exact⟨rfl,rfl⟩;refine qg (zq (zl (vi 0) (zg (qo ?_))));obtain rfl:=Option.some.inj a;refine qc (D:=[]) (J:=[]) (rs:=[.tmp 4]) (vs:=[(vi 0)]) (c.trans f) rfl rfl ⟨rfl,trivial⟩ ?_;exact⟨rfl,rfl⟩
theorem zp0:Enters prog 43:=enters_of func43 rfl (by kernel_rfl)
theorem z7j{N:Nat}{R:RH}{m:Mach}{X:Value}(am:VRep (qm false false) R X m){s:Int}{x:(List Int)}{q:Value}(H:VRep (tSl false (j3 .i64)) R q x){r:(List Int)×Int}(C:z1o N m s x=some r):CallP prog 44 #[X,(vi s),q] R (fun v R'=> ∃ u0,v= .tuple #[u0,(vi r.2)]∧VRep (tSl true (j3 .i64)) R' u0 r.1):=by
 refine qw (args:=[X,(vi s),q]) func44 rfl rfl fun A=>?_;rw [z1o] at C;refine zq (w9 (T:=(qm false false)) rfl rfl rfl am fun v1 R3 P h5 h2=>?_);refine zl vs0 (zl (vi 0) (jh (zo q (zz (ql rfl underlying49 rfl (jd (H.mono P))) ?_))));obtain⟨Q,C⟩:=zk C
 refine zed (T:=(j3 .i64)) (m:=(↑x.length:Int).toNat) (c:=(↑x.length:Int).toNat) rfl underlying49 zo3 (zw rfl Q.1) (zw rfl Q.1) (Nat.le_refl _) (zbt Q) (zch Q) fun y f7 ac h9=>?_;refine zl y (zg ?_);obtain⟨t,a,C⟩:=zi C
 refine jy (γ:=(Int×List Int)×Frag) (rs [1,2,9,12,15,41]) (fun g=>[(1,(vi g.1.1))]) (fun g=>[g.2]++A) (fun g R=>t=g.1∧ORep (j3 .i64) R g.2 y g.1.2∧capOf y=g.1.2.length∧True) ?_ ?_
 refine zq (zo q (zz (ql rfl underlying49 rfl (jd (H.mono P))) (zo (vi 0) (zg (qp (uz (γ:=Nat×Int×Int×(List Int)×Frag) (rs [1,2,9,12,17,41]) (fun g=>[(1,(vi g.2.1)),(17,(vi g.2.2.1))]) (fun g=>[g.2.2.2.2]++A) (fun g R=>sj N m x g.1 g.2.1 g.2.2.1 g.2.2.2.1=some t∧ORep (j3 .i64) R g.2.2.2.2 y g.2.2.2.1∧capOf y=g.2.2.2.1.length∧True) (fun g=>g.1) (N,s,0,(mk (↑x.length:Int) (0:Int)),f7) prm ⟨a,h9,(ac.trans List.length_replicate.symm),trivial⟩ ?_))))))
 clear a;rintro⟨S,n,b,E,Y⟩ aX aY I ⟨a,Z,W,_⟩;rcases S with _|S;exact jv a;replace a:sj N m x (S+1) n b E=some t:=a;rw [sj] at a;refine zq (zz (jl rfl rfl) (zg (zy (qb rfl a (fun a=>?_) (fun a=>?_)))))
 refine qg (zy (qp (zq (zo (vi b) ?_))));obtain⟨ad,a⟩:=zk a;refine vo (i:=b.toNat) rfl z5u rfl (jd (H.mono (P.trans I))) (zw rfl ad.1) (j4 ad) fun aZ an=>?_;refine qz rfl ty3 rfl an fun a0 ao=>?_;obtain rfl:=ko.1 ao;refine zl (vi b) (zl (vi (ix x b)) (jh ?_))
 obtain⟨U,ap,a⟩:=zi a;refine jb rfl zoc rfl (z4g  ap) fun a1 a2 z aq=>?_;obtain rfl:=aq;refine wh rfl z8m fun F=>?_;refine jm (i:=0) (vs:=[(vi U.to),(vi U.out)]) z1u rfl rfl rfl rfl rfl rfl (zt rfl (zt rfl jq)) ?_;refine zg ?_;obtain⟨d,o,a⟩:=zi a
 refine jy (γ:=(Int×Int)) (rs [23,33]) (fun g=>[]) (fun g=>[Y,box F [(vi g.1),(vi g.2)] 40]++A) (fun g R=>d=g∧True) ?_ ?_;refine zq (zo (vi n) (zz (jk rfl rfl) (zg (qb rfl o (fun o=>?_) (fun o=>?_)))));refine qd (kg rfl ku kw rfl (h2.mono (I.trans z)) fun a3 ar=>?_)
 refine qz rfl lq rfl ar fun a4 au=>?_;refine zo (vi n) ?_;obtain⟨ae,o⟩:=zk o;refine vo (i:=n.toNat) rfl z2f rfl (jd au) (zw rfl ae.1) (j4 ae) fun a5 av=>?_;refine qz rfl z1w rfl av fun a6 aw=>?_;refine zo (vi (ix x b)) ?_;obtain⟨af,o⟩:=zk o
 refine vo (i:=(ix x b).toNat) rfl z5l rfl (jd aw) (zw rfl af.1) (j4 af) fun a7 ax=>?_;refine qz rfl z2v rfl ax fun a8 ay=>?_;obtain rfl:=uy.1 ay
 refine jm (i:=0) (vs:=[(vi ((ix (ix m.rows n) (ix x b)).to)),(vi ((ix (ix m.rows n) (ix x b)).out))]) z1u rfl rfl rfl rfl rfl rfl (zt rfl (zt rfl jq)) ?_;refine zg ?_
 exact⟨dkt,(RH.le.refl _),yo,((ix (ix m.rows n) (ix x b)).to,(ix (ix m.rows n) (ix x b)).out),trivial,⟨[],(pk 1 rfl (pk 0 rfl (List.Perm.refl _)))⟩,(Option.some.inj o).symm,trivial⟩;refine qg ?_;exact⟨dkt,(RH.le.refl _),yo,(U.to,U.out),trivial,⟨[],(pk 1 rfl (pk 0 rfl (List.Perm.refl _)))⟩,(Option.some.inj o).symm,trivial⟩
 rintro d a9 ba K ⟨rfl,_⟩;obtain⟨aa,a⟩:=zk a
 refine z1q [7] [(fun es=>phX y),(fun es=>phX (vi b)),(fun es=>phX (.pointer (some ⟨F,1,none⟩))),(fun es=>phX (vi d.2)),(fun es=>phX (.pointer (some ⟨F,0,none⟩))),(fun es=>phX (vi d.1)),(fun es=>(fun u _=>z5z (j3 .i64) y E u b.toNat)),(fun es=>(fun _ _=>True)),(fun es=>phX (vi d.1))] (fun fl es R O=>(fl=[false]∧O.Perm ([Y,box F [(vi d.1),(vi d.2)] 40]++A)∧True)∨(fl=[true]∧ ∃ (fK:Frag),O.Perm ([fK,box F [(vi d.1),(vi d.2)] 40]++A)∧ORep (j3 .i64) R fK y (up E b d.2)∧True)) mixed (by kernel_rfl) ⟨(q8 zf),(q8 zf),(q8 zf),(q8 zf),(q8 zf),(q8 zf),(q8 (fun _ _ _ _ h=>h)),(fun _ _ _ _ _ h=>h),(q8 zf),trivial⟩ (by rintro fl es R R' O k (⟨rfl,w,_⟩|⟨rfl,fK,w,p,_⟩);exact(.inl ⟨rfl,w,trivial⟩);exact(.inr ⟨rfl,fK,w,(p.mono k),trivial⟩)) ⟨(fun _ _ _ _ _ h=>h),(fun _ _ _ _ _ h=>h),(fun _ _ _ _ _ h=>h),(fun _ _ _ _ _ h=>h),(fun _ _ _ _ _ h=>h),(fun _ _ _ _ _ h=>h),(fun _ _ _ _ _ h=>h),(fun _ _ _ _ _ h=>h),(fun _ _ _ _ _ h=>h),trivial⟩ (fun es=> .inl ⟨rfl,(List.Perm.refl _),trivial⟩) ⟨?_,?_,?_,?_,?_,?_,?_,?_,?_,trivial⟩ fun az ag=>?_
 intro l bb fl O k G B V L;exact zh (z8 (G 8 rfl));intro l bc fl O k G B V L;exact zh (z8 (G 9 rfl));intro l be fl O k G B V L;exact zh (j6 z7y (G 11 rfl));intro l bf fl O k G B V L;obtain⟨M,_⟩:=B;rcases L with⟨rfl,w,_⟩|⟨rfl,fK,w,p,_⟩;exact xx w (zh (j5 (i:=1) ag3 (M rfl) rfl rfl))
 exact pu V (by kernel_rfl);intro l bg fl O k G B V L;obtain⟨M,_⟩:=B;exact zh (j6 z4w (G 11 rfl));intro l bh fl O k G B V L;obtain⟨M,d1,_⟩:=B;rcases L with⟨rfl,w,_⟩|⟨rfl,fK,w,p,_⟩;exact xx w (zh (j5 (i:=1) ag3 (M rfl) rfl rfl));exact xx w (zh (j5 (i:=1) ag3 (M rfl) rfl rfl))
 intro l bi fl O k G B V L;obtain⟨M,d1,d2,d3,d4,d5,d6,d7,_⟩:=B;exact zaw (i:=b.toNat) z5u (M rfl) ((Z.mono (z.trans K)).mono k) (zw (d1 rfl) aa.1) (j4 aa);intro l bj fl O k G B V hf L;obtain⟨M,d1,d2,d3,d4,d5,d6,d7,_⟩:=B;rcases L with⟨rfl,w,_⟩|⟨rfl,fK,w,p,_⟩;refine jr w ?_
 refine Eff.mono (z7i (i:=b.toNat) (j:=0) ty3 ((Z.mono (z.trans K)).mono k) rfl rfl (M rfl) (j4 aa) (d1 rfl) (ko.2 rfl)) ?_;rintro v R' O' hle' ⟨rfl,f,rfl,ho⟩;exact⟨trivial,.inr ⟨rfl,f,(List.Perm.refl _),ho,trivial⟩⟩;cases hf;intro l bm fl O k G B V L;obtain⟨M,d1,d2,d3,d4,d5,d6,d7,d8,d9,_⟩:=B;exact zh (ui (M rfl))
 intro bn bo bp bq br bs bt bu aA aB aC aD aE aF bv aG;rintro aT (⟨e,_⟩|⟨_,ai,w,ab,_⟩);cases e;refine⟨[],_,w,?_⟩;replace ab:ORep (j3 .i64) az ai y (up E b d.2):=ab;obtain rfl:=Eq.symm aA;obtain rfl:=Eq.symm aB;obtain rfl:=Eq.symm aC;obtain rfl:=Eq.symm aD;obtain rfl:=Eq.symm aE;obtain rfl:=Eq.symm aF;obtain rfl:=Eq.symm aG
 refine zg (qd ?_);obtain⟨aH,a⟩:=zk a;refine zz (kz rfl rfl aH) (zo (vi (b+1)) (zg ?_))
 exact⟨dkt,((z.trans K).trans ag),yo,(S,d.1,b+1,(up E b d.2),ai),Nat.lt_succ_self _,⟨rfl,rfl,trivial⟩,⟨[box F [(vi d.1),(vi d.2)] 40],(pk 1 rfl (pk 0 rfl (List.Perm.refl _)))⟩,a,ab,(W.trans List.length_set.symm),trivial⟩;refine vz ?_
 exact⟨dkt,I,yo,((n,E),Y),⟨rfl,trivial⟩,prm,(Option.some.inj a).symm,Z,W,trivial⟩;rintro⟨t,bw⟩ bx bz aj ⟨rfl,aI,ak,_⟩;refine zq (zo y (zo (vi t.1) (zl y (zl (vi t.1) (zg (z0y (i:=0) rfl aI fun aJ al aK=>?_))))));have aL:VRep (tSl true (j3 .i64)) aJ y t.2:=(z2e aK ak);refine qo ?_
 obtain rfl:=Option.some.inj C;refine qc (D:=[]) (J:=[]) (rs:=[.tmp 6,.tmp 7]) (vs:=[y,(vi t.1)]) ((P.trans aj).trans al) rfl rfl ⟨rfl,rfl,trivial⟩ ?_;exact⟨rfl,⟨y,rfl,aL⟩⟩
theorem zp8:Enters prog 44:=enters_of func44 rfl (by kernel_rfl)
theorem lw{N:Nat}{R:RH}{m:Mach}{j:Value}(g:VRep (qm false false) R j m){s:Int}{y:(List Int)}{e:Value}(i:VRep (tSl false (j3 .i64)) R e y){r:(List Int)×Int}(a:il N m s y=some r):CallP prog 21 #[j,(vi s),e] R (fun v R'=> ∃ z,v= .tuple #[z,(vi r.2)]∧VRep (tSl true (j3 .i64)) R' z r.1):=by
 refine qw (args:=[j,(vi s),e]) func21 rfl rfl fun A=>?_;rw [il] at a;refine zq (w9 (T:=(qm false false)) rfl rfl rfl g fun P Q d B C=>?_);refine zl vs0 (zl (vi 0) (zg (zy (zq (zz (je z00 rfl rfl B (g.mono d)) (zo (vi s) ?_))))));obtain⟨k,E,a⟩:=zi a
 refine jb rfl zko rfl (z0l (g.mono d) E) fun S F b G=>?_;obtain rfl:=G;refine zl (vi k) (jh (zo (vi k) (zz (jk rfl rfl) (zg (qb rfl a (fun a=>?_) (fun a=>?_))))));refine zq (zo (vi k) (zl vs0 (zl (vi k) (zg (qo ?_)))));obtain rfl:=Option.some.inj a
 refine qc (D:=[]) (J:=[]) (rs:=[.tmp 6,.tmp 7]) (vs:=[vs0,(vi k)]) (d.trans b) rfl rfl ⟨rfl,rfl,trivial⟩ ?_;exact⟨rfl,⟨vs0,rfl,z6t⟩⟩;refine qg (zy (zq (zo e (kg rfl ma p9 rfl (C.mono b) fun H o=>?_))));refine qz rfl ty3 rfl o fun I p=>?_;obtain rfl:=ko.1 p
 obtain⟨h,q,a⟩:=zi a;refine jb rfl zp0 rfl (z8p (i.mono (d.trans b)) q) fun K L c t=>?_;obtain rfl:=t;refine zl (vi h) (jh (zo (vi h) (zz (jk rfl rfl) (zg (qb rfl a (fun a=>?_) (fun a=>?_))))))
 refine zq (zo (vi h) (zl vs0 (zl (vi h) (zg (qo ?_)))));obtain rfl:=Option.some.inj a;refine qc (D:=[]) (J:=[]) (rs:=[.tmp 6,.tmp 7]) (vs:=[vs0,(vi h)]) ((d.trans b).trans c) rfl rfl ⟨rfl,rfl,trivial⟩ ?_;exact⟨rfl,⟨vs0,rfl,z6t⟩⟩
 refine qg (zq (zz (je z00 rfl rfl (B.mono (b.trans c)) (g.mono ((d.trans b).trans c))) (zo (vi s) (zo e ?_))));obtain⟨l,u,a⟩:=zi a;refine jb rfl zp8 rfl (z7j (g.mono ((d.trans b).trans c)) (i.mono ((d.trans b).trans c)) u) fun M O n w=>?_;obtain⟨f,rfl,x⟩:=w
 refine zo (.tuple #[f,(vi l.2)]) (zz (q9 rfl rfl) (zz (q9 rfl rfl) (zl f (zl (vi l.2) (jh (zo f (zl f (zl (vi 0) (zg (qo ?_))))))))));obtain rfl:=Option.some.inj a
 refine qc (D:=[]) (J:=[]) (rs:=[.tmp 6,.tmp 7]) (vs:=[f,(vi 0)]) (((d.trans b).trans c).trans n) rfl rfl ⟨rfl,rfl,trivial⟩ ?_;exact⟨rfl,⟨f,rfl,x⟩⟩
end GV
end Go.Proofs.Ytohjnbajgbdhhaa
