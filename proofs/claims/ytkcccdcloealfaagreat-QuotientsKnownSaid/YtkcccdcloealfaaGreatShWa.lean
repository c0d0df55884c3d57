import Derived.Test.YtkcccdcloealfaaGreatShPlain
import Derived.Test.YtkcccdcloealfaaGreatRows
set_option linter.unusedVariables false
set_option linter.unusedSimpArgs false
namespace Go.Proofs.YtkcccdcloealfaaGreat
namespace GV
open _root_.Go.Proofs.Tryz
open Go.IntWalk
set_option maxRecDepth 100000
set_option maxHeartbeats 20000000
theorem z5j: ∀ w,∃ z,(zeroValue 30).run prog w= .ok z w∧z.cells=([.int .i64 0,.int .i64 0,.slice none 0 0]:List Value).toArray:=fun w=>⟨(.agg #[(vi 0),(vi 0),vs0]),by kernel_rfl,rfl⟩
theorem ty5:TyOk prog 5 (qc .u8):=by
 obtain⟨i,hi,a⟩: ∃ i,prog.info? 5=some i∧i.size=1:=wy (by kernel_rfl);exact z2n underlying5 hi rfl a
theorem yh: ∀ w,(sizeOf 30).run prog w= .ok 3 w:=fun w=>by kernel_rfl
theorem av:FieldOk prog 30 0 0:=by
 obtain⟨i,hi,a⟩: ∃ i,prog.info? 3=some i∧i.size=1:=wy (by kernel_rfl);exact ru underlying30 rfl rfl hi (by rw [a];rfl)
theorem ag3: ∀ w,(isAgg 3).run prog w= .ok false w:=fun w=>by kernel_rfl
theorem q2p{a:Bool}:TyOk prog 22 (tSl a (qc .u16)):=by
 obtain⟨i,hi,b⟩: ∃ i,prog.info? 22=some i∧i.size=1:=wy (by kernel_rfl);exact z2n underlying22 hi rfl b
theorem q27:TyOk prog 64 (qc .u16):=by
 obtain⟨i,hi,a⟩: ∃ i,prog.info? 64=some i∧i.size=1:=wy (by kernel_rfl);exact z2n underlying64 hi rfl a
theorem q5f:SlOk prog 22 64 (qc .u16):=⟨underlying22,q27⟩
theorem ty4:TyOk prog 4 yz:=by
 obtain⟨i,hi,a⟩: ∃ i,prog.info? 4=some i∧i.size=1:=wy (by kernel_rfl);exact z2n underlying4 hi rfl a
theorem zc1:ZeroOk prog 62 kEdge (⟨(0:Int),(0:Int)⟩:Edge) 16:=by
 obtain⟨i,zv,hi,a,c,d,f⟩:=z4d (P:=prog) (e:=62) (zv:=(.agg #[(vi 0),(vi 0)])) (k:=2) (b:=16) (by kernel_rfl);exact⟨i,zv,hi,a,c,d,fun R=>by subst f;exact⟨_,_,rfl,rfl,rfl⟩⟩
theorem z6o:FieldOk prog 30 1 1:=by
 obtain⟨i,hi,a⟩: ∃ i,prog.info? 3=some i∧i.size=1:=wy (by kernel_rfl);exact ru underlying30 rfl rfl hi (by rw [a];rfl)
theorem mixed:prog.follows .mixedOrders=true:=by kernel_rfl
theorem uf:FieldOk prog 30 2 2:=by
 obtain⟨i,hi,a⟩: ∃ i,prog.info? 28=some i∧i.size=1:=wy (by kernel_rfl);exact ru underlying30 rfl rfl hi (by rw [a];rfl)
theorem zc2: ∀ w,(isAgg 28).run prog w= .ok false w:=fun w=>by kernel_rfl
theorem zjt{a:Bool}:ZeroOk prog 56 (tSl a kEdge) ([]:List Edge) 24:=by
 obtain⟨i,zv,hi,c,d,f,g⟩:=z4d (P:=prog) (e:=56) (zv:=vs0) (k:=1) (b:=24) (by kernel_rfl);exact⟨i,zv,hi,c,d,f,fun R=>by subst g;exact(je rfl z7x)⟩
theorem zxp: ∀ w,(sizeOf 28).run prog w= .ok 1 w:=fun w=>by kernel_rfl
theorem ry: ∀ w,(isAgg 30).run prog w= .ok true w:=fun w=>by kernel_rfl
theorem zo3:ZeroOk prog 3 (qc .i64) (0:Int) 8:=by
 obtain⟨i,zv,hi,a,c,d,f⟩:=z4d (P:=prog) (e:=3) (zv:=(vi 0)) (k:=1) (b:=8) (by kernel_rfl);exact⟨i,zv,hi,a,c,d,fun R=>by subst f;exact rfl⟩
theorem z19{a b:Bool}:TyOk prog 30 (qz a b):=by
 obtain⟨i,hi,c⟩: ∃ i,prog.info? 30=some i∧i.size=3:=wy (by kernel_rfl);exact z2n underlying30 hi rfl c
theorem q8v: ∀ w,∃ z,(zeroValue 32).run prog w= .ok z w∧z.cells=([.slice none 0 0]:List Value).toArray:=fun w=>⟨vs0,by kernel_rfl,rfl⟩
theorem za3: ∀ w,∃ z,(zeroValue 3).run prog w= .ok z w∧z.cells=([.int .i64 0]:List Value).toArray:=fun w=>⟨(vi 0),by kernel_rfl,rfl⟩
theorem ty3:TyOk prog 3 (qc .i64):=by
 obtain⟨i,hi,a⟩: ∃ i,prog.info? 3=some i∧i.size=1:=wy (by kernel_rfl);exact z2n underlying3 hi rfl a
theorem z1g{a b:Bool}:TyOk prog 28 (tSl a (tSl b kEdge)):=by
 obtain⟨i,hi,c⟩: ∃ i,prog.info? 28=some i∧i.size=1:=wy (by kernel_rfl);exact z2n underlying28 hi rfl c
theorem z5t{a:Bool}:TyOk prog 56 (tSl a kEdge):=by
 obtain⟨i,hi,b⟩: ∃ i,prog.info? 56=some i∧i.size=1:=wy (by kernel_rfl);exact z2n underlying56 hi rfl b
theorem z5u{a:Bool}:SlOk prog 28 56 (tSl a kEdge):=⟨underlying28,z5t⟩
theorem za1:TyOk prog 62 kEdge:=by
 obtain⟨i,hi,a⟩: ∃ i,prog.info? 62=some i∧i.size=2:=wy (by kernel_rfl);exact z2n underlying62 hi rfl a
theorem z7u:SlOk prog 56 62 kEdge:=⟨underlying56,za1⟩
theorem za7{N:Nat}{R:RH}{s:(List Edge)}{c:Value}(k:VRep (tSl false kEdge) R c s){f:Edge→Option Bool}{e:Value}(n:FOk1 prog R e kEdge yz f){r:Int}(b:z0f N s f=some r):CallP prog 80 #[c,e] R (fun v R'=>v=(vi r)):=by
 refine qf (args:=[c,e]) func80 rfl rfl fun A=>?_;rw [z0f] at b;refine zn (zf (vi 0) (z8 ?_));obtain⟨o,a,b⟩:=zm b;refine j6 (γ:=Unit) (rs [4,19]) (fun g=>[]) (fun g=>[]++A) (fun g R=>o=Ex.go g∧True) ?_ ?_
 refine zn (zh c (zq (qj rfl underlying56 rfl (ja k)) (zh (vi 0) (z8 (zy (jg (γ:=Nat×Int) (rs [4,6,8,19]) (fun g=>[(8,(vi g.2))]) (fun g=>[]++A) (fun g R=>vz N s f g.1 g.2=some o∧True) (fun g=>g.1) (N,0) prm ⟨a,trivial⟩ ?_))))));clear a;rintro⟨m,d⟩ y H h ⟨a,_⟩
 rcases m with _|m;exact j4 a;replace a:vz N s f (m+1) d=some o:=a;rw [vz] at a;refine zn (zq (jc rfl rfl) (z8 (q8 (zw rfl a (fun a=>?_) (fun a=>?_)))))
 refine qa (q8 (zy (zn (zh (vi d) (zf (vi d) (qw (zh e (zh c (zh (vi d) ?_)))))))));obtain⟨l,a⟩:=ze a;refine kw (i:=d.toNat) rfl z7u rfl (ja (k.mono h)) (zl rfl l.1) (qb l) fun z p=>?_;refine qh rfl za1 rfl p fun B q=>?_;obtain rfl:=df.1 q
 obtain⟨C,t,a⟩:=zm a;refine zkn rfl rfl rfl ((n.mono h) _ (RH.le.refl _) (ix s d) _ _ (df.2 rfl) t) fun E F j u=>?_;obtain rfl:=ll.1 u;refine z8 (zw rfl a (fun a=>?_) (fun a=>?_));refine zn (zh (vi d) (zf (vi d) (z8 (qp ?_))));replace b:=z1z a b;obtain rfl:=Option.some.inj b
 refine q9 (D:=[]) (J:=[]) (rs:=[.tmp 4]) (vs:=[(vi d)]) (h.trans j) rfl rfl ⟨rfl,trivial⟩ ?_;exact⟨rfl,rfl⟩;refine qa (zz ?_);obtain⟨w,a⟩:=ze a;refine zq (jf rfl rfl w) (zh (vi (d+1)) (z8 ?_));exact⟨dkt,j,jq,(m,d+1),Nat.lt_succ_self _,⟨rfl,trivial⟩,prm,a,trivial⟩;refine jm ?_
 exact⟨dkt,h,jq,(),trivial,prm,(Option.some.inj a).symm,trivial⟩;rintro I G K x ⟨rfl,_⟩;replace b:=z4v b;refine zn (zf (vi (-1)) (z8 (qp ?_)));obtain rfl:=Option.some.inj b;refine q9 (D:=[]) (J:=[]) (rs:=[.tmp 4]) (vs:=[(vi (-1))]) x rfl rfl ⟨rfl,trivial⟩ ?_;exact⟨rfl,rfl⟩
theorem qai:Enters prog 80:=enters_of func80 rfl (by kernel_rfl)
theorem z8s{N:Nat}{R:RH}{s:(List Edge)}{a:Value}(d:VRep (tSl false kEdge) R a s){f:Edge→Option Bool}{b:Value}(e:FOk1 prog R b kEdge yz f){r:Bool}(c:l8 N s f=some r):CallP prog 55 #[a,b] R (fun v R'=>v=(.bool r)):=by
 refine qf (args:=[a,b]) func55 rfl rfl fun A=>?_;rw [l8] at c;refine zn (zf (.bool false) (qw (zh a (zh b ?_))));obtain⟨h,i,c⟩:=zm c;refine j3 rfl qai rfl (za7 d e i) fun k l g j=>?_;obtain rfl:=j
 refine zq (z3i rfl rfl) (zf (.bool (decide (0≤h))) (z8 (qp ?_)));obtain rfl:=Option.some.inj c;refine q9 (D:=[]) (J:=[]) (rs:=[.tmp 4]) (vs:=[(.bool (decide (0≤h)))]) g rfl rfl ⟨rfl,trivial⟩ ?_;exact⟨rfl,rfl⟩
theorem qaa:Enters prog 55:=enters_of func55 rfl (by kernel_rfl)
theorem za8: ∀ w,∃ z,(zeroValue 62).run prog w= .ok z w∧z.cells=([.int .i64 0,.int .i64 0]:List Value).toArray:=fun w=>⟨(.agg #[(vi 0),(vi 0)]),by kernel_rfl,rfl⟩
theorem z6s: ∀ w,(sizeOf 62).run prog w= .ok 2 w:=fun w=>by kernel_rfl
theorem zkt: ∀ w,(isAgg 62).run prog w= .ok true w:=fun w=>by kernel_rfl
theorem zdm{N:Nat}{R:RH}  {r:Edge} (a:z5o N  =some r):CallP prog 81 #[] R (fun v R'=>v=(ut r)):=by
 refine qf (args:=[]) func81 rfl rfl fun A=>?_;rw [z5o] at a;refine zn (kv rfl za8 fun b=>?_)
 refine qw (zq (yt (ps:=[(0,(vi (-1))),(1,(vi (-1)))]) (v:=(.agg #[(vi (-1)),(vi (-1))])) rfl (fun w=>by kernel_rfl)) (jd (i:=0) (vs:=[(vi (-1)),(vi (-1))]) z6s rfl rfl rfl rfl rfl rfl (zu rfl (zu rfl jh)) ?_));refine z8 (qp ?_);obtain rfl:=Option.some.inj a
 refine q9 (D:=[]) (J:=[box b [(vi (-1)),(vi (-1))] 62]) (rs:=[.cell 0 62]) (vs:=[(.agg #[(vi (-1)),(vi (-1))])]) (RH.le.refl _) rfl rfl ⟨⟨_,rfl,fun w c=>z05 (i:=0) c rfl rfl zkt z6s rfl rfl⟩,trivial⟩ ?_;exact⟨rfl,rfl⟩
theorem q7x:Enters prog 81:=enters_of func81 rfl (by kernel_rfl)
theorem zyx:zuy prog 62:=zop (f0:=((prog.fieldsOf 62).toList.getD 0 default)) (f1:=((prog.fieldsOf 62).toList.getD 1 default)) (by kernel_rfl) (by kernel_rfl) (by kernel_rfl) (by kernel_rfl) (by kernel_rfl) (by kernel_rfl) (by kernel_rfl) (by kernel_rfl) (by kernel_rfl) (by kernel_rfl)
theorem l5:FieldOk prog 62 0 0:=by
 obtain⟨i,hi,a⟩: ∃ i,prog.info? 3=some i∧i.size=1:=wy (by kernel_rfl);exact ru underlying62 rfl rfl hi (by rw [a];rfl)
theorem za0:FieldOk prog 62 1 1:=by
 obtain⟨i,hi,a⟩: ∃ i,prog.info? 3=some i∧i.size=1:=wy (by kernel_rfl);exact ru underlying62 rfl rfl hi (by rw [a];rfl)
theorem zjv{N:Nat}{R:RH}{m:Mach}{p:Value}(w:VRep (qz false false) R p m){x:Edge}{r:Bool}(n:zc3 N m x=some r):CallP prog 57 #[p,(ut x)] R (fun v R'=>v=(.bool r)):=by
 refine qf (args:=[p,(ut x)]) func57 rfl rfl fun A=>?_;rw [zc3] at n;refine zn (ky (T:=(qz false false)) rfl rfl rfl w fun v1 R3 y h5 K=>?_);refine zey (T:=kEdge) rfl rfl (df.2 rfl) fun v6 R8 q t=>?_;refine zf (.bool false) (z8 (q8 ?_));obtain⟨b,z,n⟩:=zm n
 let B:=((decide (x.to=b.to∧x.out=b.out))||((((decide (0≤x.to))&&(decide (x.to<(↑m.rows.length:Int))))&&(decide (0≤x.out)))&&(decide (x.out<m.outputs))));let L:=((((decide (0≤x.to))&&(decide (x.to<(↑m.rows.length:Int))))&&(decide (0≤x.out)))&&(decide (x.out<m.outputs)))
 let o:=(((decide (0≤x.to))&&(decide (x.to<(↑m.rows.length:Int))))&&(decide (0≤x.out)));let k:=((decide (0≤x.to))&&(decide (x.to<(↑m.rows.length:Int))));let e:=(true&&((decide (x.to=b.to∧x.out=b.out))==false))
 refine dn 29 [] [phX (ut x),phX (ut b),phX (.bool (decide (x.to=b.to∧x.out=b.out))),phX (.bool (decide (x.to=b.to∧x.out=b.out))),phG e (phP (qc .i64) x.to),phG e (phX (vi x.to)),phG e (phX (.bool (decide (0≤x.to)))),phG e (phX (.bool (decide (0≤x.to)))),phG (e&&((decide (0≤x.to))==true)) (phP (qc .i64) x.to),phG (e&&((decide (0≤x.to))==true)) (phX (vi x.to)),phG (e&&((decide (0≤x.to))==true)) (phP (tSl false (tSl false kEdge)) m.rows),phG (e&&((decide (0≤x.to))==true)) (phR (tSl false (tSl false kEdge)) m.rows),phG (e&&((decide (0≤x.to))==true)) (phX (vi (↑m.rows.length:Int))),phG (e&&((decide (0≤x.to))==true)) (phX (.bool (decide (x.to<(↑m.rows.length:Int))))),phG e (phX (.bool k)),phG e (phX (.bool k)),phG (e&&(k==true)) (phP (qc .i64) x.out),phG (e&&(k==true)) (phX (vi x.out)),phG (e&&(k==true)) (phX (.bool (decide (0≤x.out)))),phG e (phX (.bool o)),phG e (phX (.bool o)),phG (e&&(o==true)) (phP (qc .i64) x.out),phG (e&&(o==true)) (phX (vi x.out)),phG (e&&(o==true)) (phP (qc .i64) m.outputs),phG (e&&(o==true)) (phX (vi m.outputs)),phG (e&&(o==true)) (phX (.bool (decide (x.out<m.outputs)))),phG e (phX (.bool L)),phX (.bool B),phX (.bool B)] mixed (by kernel_rfl) (yl ⟨zi,zi,zi,zi,(qg xu),(qg zi),(qg zi),(qg zi),(qg xu),(qg zi),(qg xu),(qg bz),(qg zi),(qg zi),(qg zi),(qg zi),(qg xu),(qg zi),(qg zi),(qg zi),(qg zi),(qg xu),(qg zi),(qg xu),(qg zi),(qg zi),(qg zi),zi,zi,trivial⟩) ⟨?_,?_,?_,?_,?_,?_,?_,?_,?_,?_,?_,?_,?_,?_,?_,?_,?_,?_,?_,?_,?_,?_,?_,?_,?_,?_,?_,?_,?_,trivial⟩ fun ai u=>?_
 intro l aj a g hd;exact za rfl rfl rfl (xc (ug za1 (g 3 rfl) (t.mono a)) (fun _ _ h=>df.1 h));intro l al a g hd;exact za rfl rfl rfl (jy (vs:=[]) q7x rfl (zdm  z) (fun _ _ h=>h));rintro l am a g ⟨c,f,_⟩;exact za rfl rfl rfl (zt (zkv zyx (c rfl) (f rfl)));rintro l an a g ⟨c,f,_⟩
 exact za rfl rfl rfl (zt (zb (c rfl)));rintro l ao a g ⟨c,_⟩;exact zg (Gj:=true) (Bj:=decide (x.to=b.to∧x.out=b.out)) rfl rfl rfl (jk (c rfl)) rfl (fun i d=>z0o l5 zan (g 3 rfl) (t.mono a));rintro l ap a g ⟨c,f,_⟩
 exact zg (Gj:=true) (Bj:=decide (x.to=b.to∧x.out=b.out)) rfl rfl rfl (jk (f rfl)) rfl (fun i d=>xc (ug ty3 rfl ((c rfl).1 (zo rfl d))) (fun _ _ h=>jb.1 h));rintro l aq a g ⟨c,f,_⟩
 exact zg (Gj:=true) (Bj:=decide (x.to=b.to∧x.out=b.out)) rfl rfl rfl (jk (f rfl)) rfl (fun i d=>zt (z3i (show l 10=(vi x.to) from(c rfl).1 (zo rfl d)) rfl));rintro l ar a g ⟨c,f,j,_⟩
 exact zg (Gj:=true) (Bj:=decide (x.to=b.to∧x.out=b.out)) rfl rfl rfl (jk (f rfl)) rfl (fun i d=>zt (zb (show l 11=(.bool (decide (0≤x.to))) from(c rfl).1 (zo rfl d))));rintro l au a g ⟨c,_⟩;exact zg (Gj:=e) (Bj:=decide (0≤x.to)) rfl rfl rfl (c rfl) rfl (fun i d=>z0o l5 zan (g 3 rfl) (t.mono a))
 rintro l av a g ⟨c,f,_⟩;exact zg (Gj:=e) (Bj:=decide (0≤x.to)) rfl rfl rfl (f rfl) rfl (fun i d=>xc (ug ty3 rfl ((c rfl).1 (zo i d))) (fun _ _ h=>jb.1 h));rintro l M a g ⟨c,_⟩;exact zg (Gj:=e) (Bj:=decide (0≤x.to)) rfl rfl rfl (c rfl) rfl (fun i d=>z0o uf u6 (g 2 rfl) ((K.mono q).mono a))
 rintro l O a g ⟨c,f,_⟩;exact zg (Gj:=e) (Bj:=decide (0≤x.to)) rfl rfl rfl (f rfl) rfl (fun i d=>ug z1g rfl ((c rfl).1 (zo i d)));rintro l P a g ⟨c,f,_⟩;exact zg (Gj:=e) (Bj:=decide (0≤x.to)) rfl rfl rfl (f rfl) rfl (fun i d=>zt (qj rfl underlying28 rfl (ja ((c rfl).1 (zo i d)))))
 rintro l Q a g ⟨c,f,j,_⟩;exact zg (Gj:=e) (Bj:=decide (0≤x.to)) rfl rfl rfl (j rfl) rfl (fun i d=>zt (jc (show l 14=(vi x.to) from(c rfl).1 (zo i d)) (show l 17=(vi (↑m.rows.length:Int)) from(f rfl).1 (zo i d))));rintro l S a g ⟨c,f,j,_⟩
 exact zg (Gj:=true) (Bj:=decide (x.to=b.to∧x.out=b.out)) rfl rfl rfl (jk (j rfl)) rfl (fun i d=>zt (uk (show l 12=(.bool (decide (0≤x.to))) from(c rfl).1 (zo rfl d)) (fun s=>(show l 18=(.bool (decide (x.to<(↑m.rows.length:Int)))) from(f rfl).1 (zo (zo rfl d) s))) rfl));rintro l U a g ⟨c,f,j,_⟩
 exact zg (Gj:=true) (Bj:=decide (x.to=b.to∧x.out=b.out)) rfl rfl rfl (jk (j rfl)) rfl (fun i d=>zt (zb (show l 19=(.bool k) from(c rfl).1 (zo rfl d))));rintro l V a g ⟨c,_⟩
 exact zg (Gj:=e) (Bj:=(decide (0≤x.to))&&(decide (x.to<(↑m.rows.length:Int)))) rfl rfl rfl (c rfl) rfl (fun i d=>z0o za0 zkc (g 3 rfl) (t.mono a));rintro l W a g ⟨c,f,_⟩
 exact zg (Gj:=e) (Bj:=(decide (0≤x.to))&&(decide (x.to<(↑m.rows.length:Int)))) rfl rfl rfl (f rfl) rfl (fun i d=>xc (ug ty3 rfl ((c rfl).1 (zo i d))) (fun _ _ h=>jb.1 h));rintro l X a g ⟨c,f,_⟩
 exact zg (Gj:=e) (Bj:=(decide (0≤x.to))&&(decide (x.to<(↑m.rows.length:Int)))) rfl rfl rfl (f rfl) rfl (fun i d=>zt (z3i (show l 22=(vi x.out) from(c rfl).1 (zo i d)) rfl));rintro l Y a g ⟨c,f,j,_⟩
 exact zg (Gj:=true) (Bj:=decide (x.to=b.to∧x.out=b.out)) rfl rfl rfl (jk (j rfl)) rfl (fun i d=>zt (uk (show l 20=(.bool k) from(c rfl).1 (zo rfl d)) (fun s=>(show l 23=(.bool (decide (0≤x.out))) from(f rfl).1 (zo (zo rfl d) s))) rfl));rintro l Z a g ⟨c,f,j,_⟩
 exact zg (Gj:=true) (Bj:=decide (x.to=b.to∧x.out=b.out)) rfl rfl rfl (jk (j rfl)) rfl (fun i d=>zt (zb (show l 24=(.bool o) from(c rfl).1 (zo rfl d))));rintro l aa a g ⟨c,_⟩;exact zg (Gj:=e) (Bj:=k&&(decide (0≤x.out))) rfl rfl rfl (c rfl) rfl (fun i d=>z0o za0 zkc (g 3 rfl) (t.mono a))
 rintro l ab a g ⟨c,f,_⟩;exact zg (Gj:=e) (Bj:=k&&(decide (0≤x.out))) rfl rfl rfl (f rfl) rfl (fun i d=>xc (ug ty3 rfl ((c rfl).1 (zo i d))) (fun _ _ h=>jb.1 h));rintro l ac a g ⟨c,_⟩
 exact zg (Gj:=e) (Bj:=k&&(decide (0≤x.out))) rfl rfl rfl (c rfl) rfl (fun i d=>z0o z6o z5d (g 2 rfl) ((K.mono q).mono a));rintro l ad a g ⟨c,f,_⟩;exact zg (Gj:=e) (Bj:=k&&(decide (0≤x.out))) rfl rfl rfl (f rfl) rfl (fun i d=>xc (ug ty3 rfl ((c rfl).1 (zo i d))) (fun _ _ h=>jb.1 h))
 rintro l ae a g ⟨c,f,j,_⟩;exact zg (Gj:=e) (Bj:=k&&(decide (0≤x.out))) rfl rfl rfl (j rfl) rfl (fun i d=>zt (jc (show l 27=(vi x.out) from(c rfl).1 (zo i d)) (show l 29=(vi m.outputs) from(f rfl).1 (zo i d))));rintro l af a g ⟨c,f,j,_⟩
 exact zg (Gj:=true) (Bj:=decide (x.to=b.to∧x.out=b.out)) rfl rfl rfl (jk (j rfl)) rfl (fun i d=>zt (uk (show l 25=(.bool o) from(c rfl).1 (zo rfl d)) (fun s=>(show l 30=(.bool (decide (x.out<m.outputs))) from(f rfl).1 (zo (zo rfl d) s))) rfl));rintro l ag a g ⟨c,f,_⟩
 exact za rfl rfl rfl (zt (sw (c rfl) rfl (fun s=>(show l 31=(.bool L) from(f rfl).1 (zo rfl s)))));rintro l ah a g ⟨c,f,j,d3,d4,d5,d6,d7,d8,d9,aw,ax,ay,az,aA,aB,aC,aD,aE,aF,aG,aH,aI,aJ,aK,aL,aM,aN,aO,aP,_⟩;exact za rfl rfl rfl (zt (ni (c rfl)))
 intro aQ C aR E aS F aT G aU aV aW aX aY aZ a0 a1 a2 a3 a4 a5 a6 a7 a8 a9 ba bb bc be bf bg bh bi bj bk bl bm bn bo bp bq br bs bt bu bv bw bx bA bB bC bD bE bF bG bH H bI I;obtain rfl:=Eq.symm C;obtain rfl:=Eq.symm E;obtain rfl:=Eq.symm F;obtain rfl:=Eq.symm G;obtain rfl:=Eq.symm H;obtain rfl:=Eq.symm I
 refine z8 (qp ?_);obtain rfl:=Option.some.inj n;refine q9 (D:=[]) (J:=[]) (rs:=[.tmp 4]) (vs:=[(.bool B)]) ((y.trans q).trans u) rfl rfl ⟨rfl,trivial⟩ ?_;exact⟨rfl,rfl⟩
theorem qag:Enters prog 57:=enters_of func57 rfl (by kernel_rfl)
theorem zg4{N:Nat}{R:RH}{x:Edge}{p0_:Mach}{a:Value}(c:PRep (qz false false) R a p0_){r:Bool}(b:z97 N x p0_=some r):CallP prog 56 #[(ut x),a] R (fun v R'=>v=(.bool r)):=by
 refine qf (args:=[(ut x),a]) func56 rfl rfl fun A=>?_;rw [z97] at b;refine zn (zey (T:=kEdge) rfl rfl (df.2 rfl) fun n o d i=>?_);refine zf (.bool false) (qw (qh rfl z19 rfl (c.mono d) fun p j=>?_));refine qh rfl za1 rfl i fun q k=>?_;obtain rfl:=df.1 k
 obtain⟨h,f,b⟩:=zm b;refine j3 rfl qag rfl (zjv j f) fun l m e g=>?_;obtain rfl:=g;refine zq (ow rfl) (zf (.bool (!h)) (z8 (qp ?_)));obtain rfl:=Option.some.inj b;refine q9 (D:=[]) (J:=[]) (rs:=[.tmp 3]) (vs:=[(.bool (!h))]) (d.trans e) rfl rfl ⟨rfl,trivial⟩ ?_;exact⟨rfl,rfl⟩
theorem qab:Enters prog 56:=enters_of func56 rfl (by kernel_rfl)
theorem mi{N:Nat}{R:RH}{m:Mach}{q:Value}(F:VRep (qz false false) R q m){r:Int}(b:xk N m=some r):CallP prog 37 #[q] R (fun v R'=>v=(vi r)):=by
 refine qf (args:=[q]) func37 rfl rfl fun A=>?_;rw [xk] at b;refine zn (ky (T:=(qz false false)) rfl rfl rfl F fun E R3 k h5 l=>?_);refine zf (vi 0) (z8 (q8 (zn (zm0 rfl (ww av lw rfl l) fun v6 h7=>?_))))
 refine ji rfl (fw (jv ty3 rfl h7)) (ji rfl (z6l rfl rfl) (ji (v:=(.bool (decide (16<m.inputs)))) rfl (zb rfl) (j5 rfl rfl rfl rfl (fun c=>ww z6o z5d rfl l) fun ak G=>?_)));refine j5 rfl rfl rfl rfl (fun c=>qx (fw (jv ty3 rfl (G.1 (zo rfl c))))) fun al H=>?_
 refine j5 rfl rfl rfl rfl (fun c=>qx (z6l (H.1 (zo rfl c)) rfl)) fun am I=>?_;refine ji rfl (sw rfl rfl (fun n=>(I.1 (zo rfl n)))) (ji (v:=(.bool ((decide (16<m.inputs))||(decide (16<m.outputs))))) rfl (zb rfl) (j5 rfl rfl rfl rfl (fun c=>ww uf u6 rfl l) fun an K=>?_))
 refine j5 rfl rfl rfl rfl (fun c=>jv z1g rfl (K.1 (zo rfl c))) fun ao L=>?_;refine j5 rfl rfl rfl rfl (fun c=>qx (qj rfl underlying28 rfl (ja (L.1 (zo rfl c))))) fun ap M=>?_;refine j5 rfl rfl rfl rfl (fun c=>qx (z6l (M.1 (zo rfl c)) rfl)) fun aq O=>?_
 refine ji rfl (sw rfl rfl (fun n=>(O.1 (zo rfl n)))) (z8 (zw rfl b (fun b=>?_) (fun b=>?_)));refine zn (zf (vi 3) (z8 (qp ?_)));obtain rfl:=Option.some.inj b;refine q9 (D:=[]) (J:=[]) (rs:=[.tmp 2]) (vs:=[(vi 3)]) k rfl rfl ⟨rfl,trivial⟩ ?_;exact⟨rfl,rfl⟩
 refine qa (q8 (zn (zm0 rfl (ww av lw rfl l) fun ar P=>?_)));refine ji rfl (fw (jv ty3 rfl P)) (ji rfl (jc rfl rfl) (ji (v:=(.bool (decide (m.inputs<1)))) rfl (zb rfl) (j5 rfl rfl rfl rfl (fun c=>ww z6o z5d rfl l) fun au Q=>?_)))
 refine j5 rfl rfl rfl rfl (fun c=>qx (fw (jv ty3 rfl (Q.1 (zo rfl c))))) fun aw S=>?_;refine j5 rfl rfl rfl rfl (fun c=>qx (jc (S.1 (zo rfl c)) rfl)) fun ax U=>?_
 refine ji rfl (sw rfl rfl (fun n=>(U.1 (zo rfl n)))) (ji (v:=(.bool ((decide (m.inputs<1))||(decide (m.outputs<1))))) rfl (zb rfl) (j5 rfl rfl rfl rfl (fun c=>ww uf u6 rfl l) fun ay V=>?_));refine j5 rfl rfl rfl rfl (fun c=>jv z1g rfl (V.1 (zo rfl c))) fun az W=>?_
 refine j5 rfl rfl rfl rfl (fun c=>qx (qj rfl underlying28 rfl (ja (W.1 (zo rfl c))))) fun aA X=>?_;refine j5 rfl rfl rfl rfl (fun c=>qx (jc (X.1 (zo rfl c)) rfl)) fun aB Y=>?_;refine ji rfl (sw rfl rfl (fun n=>(Y.1 (zo rfl n)))) (z8 (zw rfl b (fun b=>?_) (fun b=>?_)))
 refine zn (zf (vi 1) (z8 (qp ?_)));obtain rfl:=Option.some.inj b;refine q9 (D:=[]) (J:=[]) (rs:=[.tmp 2]) (vs:=[(vi 1)]) k rfl rfl ⟨rfl,trivial⟩ ?_;exact⟨rfl,rfl⟩;refine qa ?_;obtain⟨s,a,b⟩:=zm b;refine j6 (γ:=Unit) (rs [2,3,4,5,33,51]) (fun g=>[]) (fun g=>[]++A) (fun g R=>s=Ex.go g∧True) ?_ ?_
 refine zn (jo rfl uf u6 rfl l fun aC Z=>?_);refine qh rfl z1g rfl Z fun aD t=>?_
 refine zq (qj rfl underlying28 rfl (ja t)) (zh (vi 0) (z8 (zy (jg (γ:=Nat×Int) (rs [2,3,4,5,36,51]) (fun g=>[(36,(vi g.2))]) (fun g=>[]++A) (fun g R=>z00 N m g.1 g.2=some s∧True) (fun g=>g.1) (N,0) prm ⟨a,trivial⟩ ?_))));clear a;rintro⟨o,e⟩ ah aE d ⟨a,_⟩;rcases o with _|o
 exact j4 a;replace a:z00 N m (o+1) e=some s:=a;rw [z00] at a;refine zn (zq (jc rfl rfl) (z8 (q8 (zw rfl a (fun a=>?_) (fun a=>?_)))));refine qa (q8 (zy (zn ?_)));obtain⟨u,a⟩:=ze a
 refine kw (i:=e.toNat) rfl z5u rfl (ja (t.mono d)) (zl rfl u.1) (qb u) fun aF aa=>?_;refine qh rfl z5t rfl aa fun p w=>?_;refine zf p (qw (ji (v:=p) rfl (zb rfl) (ji rfl (qj rfl underlying56 rfl (ja w)) (zm0 rfl (ww av lw rfl (l.mono d)) fun aG ab=>?_))))
 refine ji rfl (fw (jv ty3 rfl ab)) (ji rfl (vk rfl rfl) (ji (v:=(.bool (decide ((↑(ix m.rows e).length:Int)≠m.inputs)))) rfl (zb rfl) (j5 rfl rfl rfl rfl (fun c=>qx (v:=p) (zb rfl)) fun aH ac=>?_)))
 refine j5 rfl rfl rfl rfl (fun c=>qx (v:=(.func (.func 56) #[] #[E])) (z0p (fs:=[]) (cs:=[E]) rfl rfl)) fun aI ad=>?_;obtain⟨ae,af,a⟩:=zm a
 refine z5a rfl rfl rfl rfl (fun c=>jy (vs:=[p,(.func (.func 56) #[] #[E])]) qaa (zba (ac.1 (zo rfl c)) (zba (ad.1 (zo rfl c)) rfl)) ((by have ag:=(mq af (zo rfl c));exact z8s w (zun (cs:=[E]) qab fun R1 hq z0 u0 y k0 hy=>by obtain rfl:=df.1 k0;exact CallP.mono (zg4 ((l.mono d).mono hq) hy) fun v R2 _ hv=>ll.2 hv) ag)) (fun _ _ h=>h)) fun x z f j=>?_
 replace j:phG (true&&((decide ((↑(ix m.rows e).length:Int)≠m.inputs))==false)) (phX (.bool (ae.getD default))) x z:=j;refine ji rfl (sw rfl rfl (fun n=>(j.1 (zo rfl n)))) (z8 (zw rfl a (fun a=>?_) (fun a=>?_)));refine zn (zf (vi 1) (z8 (qp ?_)));replace b:=z1z a b;obtain rfl:=Option.some.inj b
 refine q9 (D:=[]) (J:=[]) (rs:=[.tmp 2]) (vs:=[(vi 1)]) ((k.trans d).trans f) rfl rfl ⟨rfl,trivial⟩ ?_;exact⟨rfl,rfl⟩;refine qa (zz ?_);obtain⟨B,a⟩:=ze a;refine zq (jf rfl rfl B) (zh (vi (e+1)) (z8 ?_));exact⟨dkt,f,jq,(o,e+1),Nat.lt_succ_self _,⟨rfl,trivial⟩,prm,a,trivial⟩
 refine jm ?_;exact⟨dkt,d,jq,(),trivial,prm,(Option.some.inj a).symm,trivial⟩;rintro aN ai aO C ⟨rfl,_⟩;replace b:=z4v b;refine zn (zf (vi 0) (z8 (qp ?_)));obtain rfl:=Option.some.inj b;refine q9 (D:=[]) (J:=[]) (rs:=[.tmp 2]) (vs:=[(vi 0)]) (k.trans C) rfl rfl ⟨rfl,trivial⟩ ?_;exact⟨rfl,rfl⟩
theorem zie:Enters prog 37:=enters_of func37 rfl (by kernel_rfl)
theorem q1n: ∀ w,(sizeOf 32).run prog w= .ok 1 w:=fun w=>by kernel_rfl
theorem sz3: ∀ w,(sizeOf 3).run prog w= .ok 1 w:=fun w=>by kernel_rfl
theorem ziq{N:Nat}{R:RH}{m:Mach}{a:Value}(d:VRep (qz false false) R a m){r:Mach}(b:z8f N m=some r):CallP prog 68 #[a] R (fun v R'=> ∃ f,v= .func (.func 86) #[] #[f]∧PRep (qz false false) R' f r):=by
 refine qf (args:=[a]) func68 rfl rfl fun A=>?_;rw [z8f] at b;refine zn (ky (T:=(qz false false)) rfl rfl rfl d fun c h e i g=>?_);refine zf .nilFunc (qw (zq (z0p (fs:=[]) (cs:=[c]) rfl rfl) (zf (.func (.func 86) #[] #[c]) (z8 (qp ?_)))));obtain rfl:=Option.some.inj b
 refine q9 (D:=[]) (J:=[]) (rs:=[.tmp 2]) (vs:=[(.func (.func 86) #[] #[c])]) e rfl rfl ⟨rfl,trivial⟩ ?_;exact⟨rfl,⟨c,rfl,g⟩⟩
theorem qae:Enters prog 68:=enters_of func68 rfl (by kernel_rfl)
theorem z02:SlOk prog 32 3 (qc .i64):=⟨underlying32,ty3⟩
theorem q4l: ∀ w,∃ z,(zeroValue 154).run prog w= .ok z w∧z.cells=((xe (zbs 16 (List.replicate 16 (((0:Int),(0:Int)):(Int×Int)))))).toArray:=fun w=>⟨(.agg #[(vi 0),(vi 0),(vi 0),(vi 0),(vi 0),(vi 0),(vi 0),(vi 0),(vi 0),(vi 0),(vi 0),(vi 0),(vi 0),(vi 0),(vi 0),(vi 0),(vi 0),(vi 0),(vi 0),(vi 0),(vi 0),(vi 0),(vi 0),(vi 0),(vi 0),(vi 0),(vi 0),(vi 0),(vi 0),(vi 0),(vi 0),(vi 0)]),by kernel_rfl,by kernel_rfl⟩
theorem q4c:ArrOk prog 154 16 2:=zh5 (e:=149) underlying154 (fun w=>by kernel_rfl)
theorem zzo: ∀ w,(sizeOf 149).run prog w= .ok 2 w:=fun w=>by kernel_rfl
theorem q8r:ArrOk prog 149 2 1:=zh5 (e:=3) underlying149 (fun w=>by kernel_rfl)
theorem q4h: ∀ w,(isAgg 154).run prog w= .ok true w:=fun w=>by kernel_rfl
theorem q15: ∀ w,(sizeOf 154).run prog w= .ok 32 w:=fun w=>by kernel_rfl
theorem zlh{N:Nat}{R:RH}{m:Mach}{n:Value}(O:VRep (qz false false) R n m){p:(List Int)}{h:Value}(P:VRep (tSl false (qc .i64)) R h p){s:Int}{r:(Arr 16 (Int×Int))}(k:z7y N m p s=some r):CallP prog 102 #[n,h,(vi s)] R (fun v R'=>v=(z6i r)):=by
 refine qf (args:=[n,h,(vi s)]) func102 rfl rfl fun A=>?_;rw [z7y] at k;refine zn (ky (T:=(qz false false)) rfl rfl rfl O fun v1 R3 C h5 h2=>?_);refine kv rfl q4l fun M=>?_;refine qw (kv rfl q4l fun B=>?_);refine z8 ?_;obtain⟨e,b,k⟩:=zm k
 refine j6 (γ:=((Arr 16 (Int×Int)))) (rs [8,38]) (fun g=>[]) (fun g=>[box M (xe (zbs 16 (List.replicate 16 (((0:Int),(0:Int)):(Int×Int))))) 154,box B (xe g) 154]++A) (fun g R=>e=g∧True) ?_ ?_;refine zn (jo rfl uf u6 rfl h2 fun ab Q=>?_);refine qh rfl z1g rfl Q fun ac S=>?_
 refine zh (vi s) ?_;obtain⟨E,b⟩:=ze b;refine kw (i:=s.toNat) rfl z5u rfl (ja S) (zl rfl E.1) (qb E) fun ad U=>?_;refine qh rfl z5t rfl U fun ae F=>?_
 refine zq (qj rfl underlying56 rfl (ja F)) (zh (vi 0) (z8 (zy (jg (γ:=Nat×Int×((Arr 16 (Int×Int)))) (rs [8,10,16,38]) (fun g=>[(16,(vi g.2.1))]) (fun g=>[box M (xe (zbs 16 (List.replicate 16 (((0:Int),(0:Int)):(Int×Int))))) 154,box B (xe g.2.2) 154]++A) (fun g R=>lg N m p s g.1 g.2.1 g.2.2=some e∧True) (fun g=>g.1) (N,0,(zbs 16 (List.replicate 16 (((0:Int),(0:Int)):(Int×Int))))) ⟨[],(pk 1 rfl (pk 0 rfl (List.Perm.refl _)))⟩ ⟨b,trivial⟩ ?_))))
 clear b;rintro⟨l,a,d⟩ af ag f ⟨b,_⟩;rcases l with _|l;exact j4 b;replace b:lg N m p s (l+1) a d=some e:=b;rw [lg] at b;refine zn (zq (jc rfl rfl) (z8 (q8 (zw rfl b (fun b=>?_) (fun b=>?_)))));refine qa ?_;obtain⟨t,c,b⟩:=zm b
 refine j6 (γ:=((Arr 16 (Int×Int)))) (rs [8,10,18,37]) (fun g=>[]) (fun g=>[box M (xe (zbs 16 (List.replicate 16 (((0:Int),(0:Int)):(Int×Int))))) 154,box B (xe g) 154]++A) (fun g R=>t=g∧True) ?_ ?_;refine zy (zn (zh (vi a) ?_));obtain⟨G,c⟩:=ze c
 refine kw (i:=a.toNat) rfl z7u rfl (ja (F.mono f)) (zl rfl G.1) (qb G) fun ah V=>?_;refine qh rfl za1 rfl V fun ai W=>?_;obtain rfl:=df.1 W;refine kv rfl za8 fun u=>?_
 refine zf (vi a) (jd (i:=0) (vs:=[(vi ((ix (ix m.rows s) a).to)),(vi ((ix (ix m.rows s) a).out))]) z6s rfl rfl rfl rfl rfl rfl (zu rfl (zu rfl jh)) ?_)
 refine qw (zh (vi a) (zq (qd za0 rfl) (zq (qi (i:=0) ag3 rfl rfl rfl) (zq (yt (ps:=[(0,(vi ((ix (ix m.rows s) a).out))),(1,(vi (-1)))]) (v:=(.agg #[(vi ((ix (ix m.rows s) a).out)),(vi (-1))])) rfl (fun w=>by kernel_rfl)) ?_))));obtain⟨x,c⟩:=ze c
 refine zq (z7j (i:=a.toNat) q4c rfl (zl rfl x.1) (Nat.lt_of_lt_of_eq (qb x) d.2)) (zmr (sz:=2) (cl:=z2c) (z:=(((ix (ix m.rows s) a).out,(-1)):(Int×Int))) (vs:=[(vi ((ix (ix m.rows s) a).out)),(vi (-1))]) (q:=a) (i:=a.toNat) (o:=0) (j:=2) (X:=d) co_A2tInti64.len zzo rfl rfl (by omega) rfl (Nat.lt_of_lt_of_eq (qb x) d.2) rfl rfl rfl (zu rfl (zu rfl jh)) rfl rfl ?_)
 refine qw (zq (qd l5 rfl) (zq (qi (i:=0) ag3 rfl rfl rfl) (zq (vk rfl rfl) (z8 (zw rfl c (fun c=>?_) (fun c=>?_))))));refine z5k 8 mixed (by kernel_rfl) (by kernel_rfl) ?_;refine xn (v:=(vi a)) (zb rfl) ?_;refine xn (v:=h) (zb rfl) ?_
 refine xn (v:=(.pointer (some ⟨u,0,none⟩))) (qd l5 rfl) ?_;refine xn (v:=(vi ((ix (ix m.rows s) a).to))) (qi (i:=0) ag3 rfl rfl rfl) ?_;obtain⟨H,c⟩:=ze c;refine z1r (bv (i:=((ix (ix m.rows s) a).to).toNat) z02 rfl (ja (P.mono (C.trans f))) (zl rfl H.1) (qb H)) fun aj Y=>?_
 refine xn (fw (jv ty3 rfl Y)) ?_;obtain⟨y,c⟩:=ze c;refine xn (v:=(.pointer (some ⟨B,0+a.toNat*2,none⟩))) (z7j (i:=a.toNat) q4c rfl (zl rfl y.1) (Nat.lt_of_lt_of_eq (qb y) (z5h d a (((ix (ix m.rows s) a).out,(-1)):(Int×Int))).2)) ?_
 refine xn (v:=(.pointer (some ⟨B,0+a.toNat*2+1*1,none⟩))) (z7j (i:=1) q8r rfl rfl (by decide)) ?_;intro ak I
 refine zmr (sz:=2) (cl:=z2c) (z:=(((ix (z5h d a (((ix (ix m.rows s) a).out,(-1)):(Int×Int))).1 a).1,(ix p ((ix (ix m.rows s) a).to))):(Int×Int))) (vs:=[(vi (ix p ((ix (ix m.rows s) a).to)))]) (q:=a) (i:=a.toNat) (o:=1) (j:=2) (X:=(z5h d a (((ix (ix m.rows s) a).out,(-1)):(Int×Int)))) co_A2tInti64.len sz3 rfl rfl (by omega) rfl (Nat.lt_of_lt_of_eq (qb y) (z5h d a (((ix (ix m.rows s) a).out,(-1)):(Int×Int))).2) rfl rfl rfl (zu rfl jh) rfl rfl ?_
 refine z8 ?_
 exact⟨dkt,I,jq,(z5h (z5h d a (((ix (ix m.rows s) a).out,(-1)):(Int×Int))) a (((ix (z5h d a (((ix (ix m.rows s) a).out,(-1)):(Int×Int))).1 a).1,(ix p ((ix (ix m.rows s) a).to))):(Int×Int))),trivial,⟨[box u [(vi ((ix (ix m.rows s) a).to)),(vi ((ix (ix m.rows s) a).out))] 62],(List.Perm.refl _)⟩,(Option.some.inj c).symm,trivial⟩
 refine qa ?_;exact⟨dkt,(RH.le.refl _),jq,(z5h d a (((ix (ix m.rows s) a).out,(-1)):(Int×Int))),trivial,⟨[box u [(vi ((ix (ix m.rows s) a).to)),(vi ((ix (ix m.rows s) a).out))] 62],(List.Perm.refl _)⟩,(Option.some.inj c).symm,trivial⟩;rintro t al am K ⟨rfl,_⟩;refine zz ?_;obtain⟨Z,b⟩:=ze b
 refine zq (jf rfl rfl Z) (zh (vi (a+1)) (z8 ?_));exact⟨dkt,K,jq,(l,a+1,t),Nat.lt_succ_self _,⟨rfl,trivial⟩,prm,b,trivial⟩;refine jm ?_;exact⟨dkt,f,jq,d,trivial,prm,(Option.some.inj b).symm,trivial⟩;rintro e an ao L ⟨rfl,_⟩
 refine zn (zq (zbm (j:=1) (v:=(z6i e)) q4h q15 rfl rfl (co_A16A2tInti64.len _) rfl) (zj7 (j:=0) (cs:=(xe (zbs 16 (List.replicate 16 (((0:Int),(0:Int)):(Int×Int)))))) (cs':=(xe e)) q15 rfl rfl (co_A16A2tInti64.len _) (co_A16A2tInti64.len _) rfl rfl (zmq (zdn _)) ?_));refine z8 (qp ?_)
 obtain rfl:=Option.some.inj k;refine q9 (D:=[]) (J:=[box M (xe e) 154,box B (xe e) 154]) (rs:=[.cell 6 154]) (vs:=[(z6i e)]) (C.trans L) rfl rfl ⟨⟨_,rfl,fun w hh=>zxl (i:=0) hh rfl q4h q15 (co_A16A2tInti64.len _)⟩,trivial⟩ ?_;exact⟨rfl,rfl⟩
theorem q6u:Enters prog 102:=enters_of func102 rfl (by kernel_rfl)
theorem q4s: ∀ w,∃ z,(zeroValue 157).run prog w= .ok z w∧z.cells=((aa (⟨(0:Int),(zbs 16 (List.replicate 16 (((0:Int),(0:Int)):(Int×Int))))⟩:Sb))).toArray:=fun w=>⟨(.agg #[(vi 0),(vi 0),(vi 0),(vi 0),(vi 0),(vi 0),(vi 0),(vi 0),(vi 0),(vi 0),(vi 0),(vi 0),(vi 0),(vi 0),(vi 0),(vi 0),(vi 0),(vi 0),(vi 0),(vi 0),(vi 0),(vi 0),(vi 0),(vi 0),(vi 0),(vi 0),(vi 0),(vi 0),(vi 0),(vi 0),(vi 0),(vi 0),(vi 0)]),by kernel_rfl,by kernel_rfl⟩
theorem zur: ∀ w,(sizeOf 157).run prog w= .ok 33 w:=fun w=>by kernel_rfl
theorem zzr: ∀ w,(isAgg 157).run prog w= .ok true w:=fun w=>by kernel_rfl
theorem mz3: ∀ w,(zeroValue 3).run prog w= .ok ((Value.int .i64) (0:Int)) w:=fun w=>by kernel_rfl
theorem kt3:KTy prog 3 1 1 false (fun cs=> ∃ x,cs=[.int .i64 x]):=q3b underlying3 (by kernel_rfl)
theorem q6t:KTy prog 149 2 (2*1) true (zmb 2 (fun cs=> ∃ x,cs=[.int .i64 x])):=zum underlying149 (by kernel_rfl) kt3
theorem q5m(x:(Int×Int)):zmb 2 (fun cs=> ∃ x,cs=[.int .i64 x]) (z2c x):=⟨[[(vi x.1)],[(vi x.2)]],rfl,by
      intro c a
      simp only [List.mem_cons,List.not_mem_nil,or_false] at a
      rcases a with rfl|rfl
      · exact⟨x.1,rfl⟩
      · exact⟨x.2,rfl⟩,rfl⟩
theorem kt154:KTy prog 154 3 (16*2) true (zmb 16 (zmb 2 (fun cs=> ∃ x,cs=[.int .i64 x]))):=zum underlying154 (by kernel_rfl) q6t
theorem q5s(x:Sb):(fun cs=> ∃ a b,(fun cs=> ∃ x,cs=[.int .i64 x]) a∧(fun cs=> ∃ a b,(zmb 16 (zmb 2 (fun cs=> ∃ x,cs=[.int .i64 x]))) a∧(fun cs=>cs=[]) b∧cs=a++b) b∧cs=a++b) (aa x):=⟨_,_,⟨x.fQ,rfl⟩,⟨_,_,(q47 (fun x=>(q5m x)) x.fO),rfl,(List.append_nil _).symm⟩,rfl⟩
theorem q8u:KTy prog 157 4 33 true (fun cs=> ∃ a b,(fun cs=> ∃ x,cs=[.int .i64 x]) a∧(fun cs=> ∃ a b,(zmb 16 (zmb 2 (fun cs=> ∃ x,cs=[.int .i64 x]))) a∧(fun cs=>cs=[]) b∧cs=a++b) b∧cs=a++b):=zsj underlying157 (by kernel_rfl) (by kernel_rfl) (.cons (by decide) rfl (kt3.mono (by decide)) (.cons (by decide) rfl (kt154.mono (by decide)) .nil)) (by
  rintro cs ⟨e,f,c,⟨g,h,d,rfl,rfl⟩,rfl⟩
  simp only [List.length_append,List.length_nil,kt3.len _ c,kt154.len _ d])
theorem q04:KOk prog 157 z18:=q5o q8u (by decide) (by rw [underlying157]) (fun _=>rfl) (fun x=>(q5s x)) zjm zdo
theorem zhe{N:Nat}{R:RH}{m:Mach}{G:Value}(H:VRep (qz false false) R G m){p:(List Int)}{o:Value}(y:VRep (tSl false (qc .i64)) R o p){r:(List Int)}(q:z5n N m p=some r):CallP prog 87 #[G,o] R (fun v R'=>VRep (tSl true (qc .i64)) R' v r):=by
 refine qf (args:=[G,o]) func87 rfl rfl fun A=>?_;rw [z5n] at q;refine zn (ky (T:=(qz false false)) rfl rfl rfl H fun v1 R3 n h5 h2=>?_);refine zf vs0 (qw (zg7 (ke:=z18) (ve:=(Value.int .i64)) rfl fun I f7 h8=>?_))
 refine zf I (qw (zh o (zq (qj rfl underlying32 rfl (ja (y.mono n))) ?_)));obtain⟨z,q⟩:=ze q;refine z8k (T:=(qc .i64)) (m:=(↑p.length:Int).toNat) (c:=(↑p.length:Int).toNat) rfl underlying32 zo3 (zl rfl z.1) (zl rfl z.1) (Nat.le_refl _) (zbo z) (zbn z) fun f Z K ab=>?_
 refine zf f (z8 ?_);obtain⟨s,b,q⟩:=zm q;refine j6 (γ:=(List Int)×Frag) (rs [7,12,16,48]) (fun g=>[]) (fun g=>[g.2]++A) (fun g R=>s=g.1∧ORep (qc .i64) R g.2 f g.1∧capOf f=g.1.length∧True) ?_ ?_
 refine zn (zh o (zq (qj rfl underlying32 rfl (ja (y.mono n))) (zh (vi 0) (z8 (zy (jg (γ:=Nat×Int×(List (Sb×Int))×(List Int)×Frag×Frag) (rs [7,12,18,48]) (fun g=>[(18,(vi g.2.1))]) (fun g=>[g.2.2.2.2.1,g.2.2.2.2.2]++A) (fun g R=>l6 N m p g.1 g.2.1 g.2.2.1 g.2.2.2.1=some s∧MRep z18 (Value.int .i64) R g.2.2.2.2.1 I g.2.2.1∧ORep (qc .i64) R g.2.2.2.2.2 f g.2.2.2.1∧capOf f=g.2.2.2.1.length∧True) (fun g=>g.1) (N,0,[],(mk (↑p.length:Int) (0:Int)),f7,Z) ⟨[],(pk 1 rfl (pk 0 rfl (List.Perm.refl _)))⟩ ⟨b,h8,ab,(K.trans List.length_replicate.symm),trivial⟩ ?_))))))
 clear b;rintro⟨B,a,h,L,P,Q⟩ aw ax l ⟨b,C,M,F,_⟩;rcases B with _|B;exact j4 b;replace b:l6 N m p (B+1) a h L=some s:=b;rw [l6] at b;refine zn (zq (jc rfl rfl) (z8 (q8 (zw rfl b (fun b=>?_) (fun b=>?_)))))
 refine qa (q8 (zy (zn (zh (vi a) ?_))));obtain⟨S,b⟩:=ze b;refine kw (i:=a.toNat) rfl z02 rfl (ja (y.mono (n.trans l))) (zl rfl S.1) (qb S) fun ay ac=>?_;refine qh rfl ty3 rfl ac fun az ad=>?_;obtain rfl:=jb.1 ad
 refine zf (vi a) (zf (vi (ix p a)) (qw (zh (vi (ix p a)) (zq (jl z19 rfl rfl (h5.mono l) (H.mono (n.trans l))) (zh o (zh (vi a) ?_))))));obtain⟨d,ae,b⟩:=zm b;refine j3 rfl q6u rfl (zlh (H.mono (n.trans l)) (y.mono (n.trans l)) ae) fun aA aB e af=>?_
 obtain rfl:=af
 refine zq (zsh (ps:=[(0,(vi (ix p a))),(1,(z6i d))]) (pls:= #[(0,1),(1,32)]) (out:=(aa (⟨(ix p a),d⟩:Sb))) (k:=33) (v:=(z18 (⟨(ix p a),d⟩:Sb))) rfl underlying157 (q38 (co_Srefines_key.len _) q4s) (fun w=>by kernel_rfl) (.cons rfl rfl (.last rfl (by simp only [co_A16A2tInti64.len];rfl))) (co_Srefines_key.len _) rfl) (kv rfl q4s fun U=>?_)
 refine zj7 (j:=0) (cs:=(aa (⟨(0:Int),(zbs 16 (List.replicate 16 (((0:Int),(0:Int)):(Int×Int))))⟩:Sb))) (cs':=(aa (⟨(ix p a),d⟩:Sb))) zur rfl rfl (co_Srefines_key.len _) (co_Srefines_key.len _) rfl rfl (zmq (zdo _)) ?_;refine z8 ?_;obtain⟨E,t,b⟩:=zm b
 refine j6 (γ:=(List (Sb×Int))×Frag) (rs [10,12,29,41]) (fun g=>[]) (fun g=>[g.2,Q,box U (aa (⟨(ix p a),d⟩:Sb)) 157]++A) (fun g R=>E=g.1∧MRep z18 (Value.int .i64) R g.2 I g.1∧True) ?_ ?_
 refine zn (zh I (zq (zbm (j:=0) (v:=(z18 (⟨(ix p a),d⟩:Sb))) zzr zur rfl rfl (co_Srefines_key.len _) rfl) (zq (zjf (k:=(⟨(ix p a),d⟩:Sb)) underlying152 q04 mz3 (zh2 (i:=1) rfl (C.mono e)) rfl rfl) (zh (.tuple #[(vi (z4x (0:Int) h (⟨(ix p a),d⟩:Sb))),(.bool (z6e h (⟨(ix p a),d⟩:Sb)))]) (zq (qm rfl rfl) (zq (qm rfl rfl) (zf (vi (z4x (0:Int) h (⟨(ix p a),d⟩:Sb))) (zf (.bool (z6e h (⟨(ix p a),d⟩:Sb))) (qw (zh (.bool (z6e h (⟨(ix p a),d⟩:Sb))) (zq (ow rfl) (z8 (zw rfl t (fun t=>?_) (fun t=>?_))))))))))))))
 refine zz (zh I (zq (zbm (j:=0) (v:=(z18 (⟨(ix p a),d⟩:Sb))) zzr zur rfl rfl (co_Srefines_key.len _) rfl) (zh I (zq (q1r rfl underlying152 rfl (zh2 (i:=1) rfl (C.mono e))) (zcz (i:=1) (k:=(⟨(ix p a),d⟩:Sb)) (u:=(↑h.length:Int)) underlying152 q04 rfl (C.mono e) rfl rfl rfl fun ag ah=>?_)))))
 refine z8 ?_;exact⟨dkt,(RH.le.refl _),jq,((z98 h (⟨(ix p a),d⟩:Sb) (↑h.length:Int)),ag),trivial,⟨[],(pk 1 rfl (pk 1 rfl (pk 0 rfl (List.Perm.refl _))))⟩,(Option.some.inj t).symm,ah,trivial⟩;refine qa ?_
 exact⟨dkt,(RH.le.refl _),jq,(h,P),trivial,⟨[],(pk 1 rfl (pk 1 rfl (pk 0 rfl (List.Perm.refl _))))⟩,(Option.some.inj t).symm,(C.mono e),trivial⟩;rintro⟨E,ai⟩ aC aD x ⟨rfl,V,_⟩
 refine zz (zh f (zh (vi a) (zh I (zq (zbm (j:=2) (v:=(z18 (⟨(ix p a),d⟩:Sb))) zzr zur rfl rfl (co_Srefines_key.len _) rfl) (zq (zgj (k:=(⟨(ix p a),d⟩:Sb)) underlying152 q04 mz3 (zh2 (i:=0) rfl V) rfl rfl) ?_)))));obtain⟨O,b⟩:=ze b
 refine lm (i:=a.toNat) rfl z02 rfl (M.mono (e.trans x)) (zl rfl O.1) (qb O) fun aE aj=>?_;refine z3n (i:=a.toNat) (j:=1) ty3 (M.mono (e.trans x)) rfl rfl aj (qb O) rfl (jb.2 rfl) fun ak al=>?_;refine z8 (zz ?_);obtain⟨am,b⟩:=ze b
 refine zq (jf rfl rfl am) (zh (vi (a+1)) (z8 ?_))
 exact⟨dkt,(e.trans x),jq,(B,a+1,E,(up L a (z4x (0:Int) E (⟨(ix p a),d⟩:Sb))),ai,ak),Nat.lt_succ_self _,⟨rfl,trivial⟩,⟨[box U (aa (⟨(ix p a),d⟩:Sb)) 157],(pk 2 rfl (pk 0 rfl (pk 0 rfl (List.Perm.refl _))))⟩,b,V,al,(F.trans List.length_set.symm),trivial⟩;refine jm ?_
 exact⟨dkt,l,jq,(L,Q),trivial,⟨[P],(List.Perm.refl _)⟩,(Option.some.inj b).symm,M,F,trivial⟩;rintro⟨s,aF⟩ aG aH W ⟨rfl,an,X,_⟩;refine zn (zh f (zf f (z8 (rz (i:=0) rfl an fun ao Y ap=>?_))));have aq:VRep (tSl true (qc .i64)) ao f s:=(z1b ap X);refine qp ?_;obtain rfl:=Option.some.inj q
 refine q9 (D:=[]) (J:=[]) (rs:=[.tmp 4]) (vs:=[f]) ((n.trans W).trans Y) rfl rfl ⟨rfl,trivial⟩ ?_;exact⟨rfl,aq⟩
theorem q9t:Enters prog 87:=enters_of func87 rfl (by kernel_rfl)
theorem zfu{N:Nat}{R:RH}{s1_:(List Int)}{b:Value}(e:VRep (tSl false (qc .i64)) R b s1_){s2_:(List Int)}{d:Value}(f:VRep (tSl false (qc .i64)) R d s2_){r:Bool}(c:slices_Equal_int N s1_ s2_=some r):CallP prog 88 #[b,d] R (fun v R'=>v=(.bool r)):=by
 refine qf (args:=[b,d]) func88 rfl rfl fun A=>?_;rw [slices_Equal_int] at c;refine zn (zf (.bool false) (z8 (q8 (zn (zh b (zq (qj rfl underlying32 rfl (ja e)) (zh d (zq (qj rfl underlying32 rfl (ja f)) (zq (vk rfl rfl) (z8 (zw rfl c (fun c=>?_) (fun c=>?_))))))))))))
 refine zn (zf (.bool false) (z8 (qp ?_)));obtain rfl:=Option.some.inj c;refine q9 (D:=[]) (J:=[]) (rs:=[.tmp 4]) (vs:=[(.bool false)]) (RH.le.refl _) rfl rfl ⟨rfl,trivial⟩ ?_;exact⟨rfl,rfl⟩;refine qa ?_;obtain⟨o,a,c⟩:=zm c;refine j6 (γ:=Unit) (rs [4,6,11,26]) (fun g=>[]) (fun g=>[]++A) (fun g R=>o=Ex.go g∧True) ?_ ?_
 refine zn (zh b (zq (qj rfl underlying32 rfl (ja e)) (zh (vi 0) (z8 (zy (jg (γ:=Nat×Int) (rs [4,6,13,26]) (fun g=>[(13,(vi g.2))]) (fun g=>[]++A) (fun g R=>sj N s1_ s2_ g.1 g.2=some o∧True) (fun g=>g.1) (N,0) prm ⟨a,trivial⟩ ?_))))));clear a;rintro⟨n,h⟩ u B j ⟨a,_⟩
 rcases n with _|n;exact j4 a;replace a:sj N s1_ s2_ (n+1) h=some o:=a;rw [sj] at a;refine zn (zq (jc rfl rfl) (z8 (q8 (zw rfl a (fun a=>?_) (fun a=>?_)))))
 refine qa (q8 (zy (zn (zh (vi h) (zf (vi h) (z8 (q8 (z5k 9 mixed (by kernel_rfl) (by kernel_rfl) ?_))))))));refine xn (v:=b) (zb rfl) ?_;refine xn (v:=(vi h)) (zb rfl) ?_;obtain⟨l,a⟩:=ze a
 refine z1r (bv (i:=h.toNat) z02 rfl (ja (e.mono j)) (zl rfl l.1) (qb l)) fun w p=>?_;refine xn (fw (jv ty3 rfl p)) ?_;refine xn (v:=d) (zb rfl) ?_;refine xn (v:=(vi h)) (zb rfl) ?_;obtain⟨m,a⟩:=ze a
 refine z1r (bv (i:=h.toNat) z02 rfl (ja (f.mono j)) (zl rfl m.1) (qb m)) fun x q=>?_;refine xn (fw (jv ty3 rfl q)) ?_;refine xn (vk rfl rfl) ?_;intro y k;refine z8 (zw rfl a (fun a=>?_) (fun a=>?_));refine zn (zf (.bool false) (z8 (qp ?_)));replace c:=z1z a c
 obtain rfl:=Option.some.inj c;refine q9 (D:=[]) (J:=[]) (rs:=[.tmp 4]) (vs:=[(.bool false)]) (j.trans k) rfl rfl ⟨rfl,trivial⟩ ?_;exact⟨rfl,rfl⟩;refine qa (zz ?_);obtain⟨s,a⟩:=ze a;refine zq (jf rfl rfl s) (zh (vi (h+1)) (z8 ?_));exact⟨dkt,k,jq,(n,h+1),Nat.lt_succ_self _,⟨rfl,trivial⟩,prm,a,trivial⟩
 refine jm ?_;exact⟨dkt,j,jq,(),trivial,prm,(Option.some.inj a).symm,trivial⟩;rintro C z E t ⟨rfl,_⟩;replace c:=z4v c;refine zn (zf (.bool true) (z8 (qp ?_)));obtain rfl:=Option.some.inj c;refine q9 (D:=[]) (J:=[]) (rs:=[.tmp 4]) (vs:=[(.bool true)]) t rfl rfl ⟨rfl,trivial⟩ ?_;exact⟨rfl,rfl⟩
theorem q95:Enters prog 88:=enters_of func88 rfl (by kernel_rfl)
theorem zgn{N:Nat}{R:RH}{p0_:Mach}{h:Value}(l:PRep (qz false false) R h p0_):zr9 prog 86 [h] R (fun(x:(List Int)) vs R=> ∃ Y,vs=[Y]∧VRep (tSl false (qc .i64)) R Y x) (fun σ B s=>z6j N p0_ σ B s):=by
 intro yv σ B I R1 O s0 Z r t h0 a hy;refine z3l (args:=[yv,h]) func86 rfl rfl fun A=>?_;dsimp only at a;rw [z6j] at a;refine zn (jo rfl uf u6 rfl (l.mono r) fun v1 h2=>?_);refine qh rfl z1g rfl h2 fun v3 h4=>?_;refine zq (qj rfl underlying28 rfl (ja h4)) ?_;obtain⟨H,a⟩:=ze a
 refine z8k (T:=(qc .i64)) (m:=(↑p0_.rows.length:Int).toNat) (c:=(↑p0_.rows.length:Int).toNat) rfl underlying32 zo3 (zl rfl H.1) (zl rfl H.1) (Nat.le_refl _) (zbo H) (zbn H) fun K f6 y h8=>?_;refine zf K (z8 (zy (rz (i:=0) rfl h8 fun L d M=>?_)))
 have P:VRep (tSl true (qc .i64)) L K (mk (↑p0_.rows.length:Int) (0:Int)):=(z1b M (y.trans List.length_replicate.symm))
 refine jg (γ:=Nat×σ×((List Int))×(List Frag)×Value) (rs [3,5,9,19]) (fun g=>[(3,g.2.2.2.2)]) (fun g=>[]++(g.2.2.2.1++A)) (fun g R=>z0i N σ B p0_ g.1 g.2.1 g.2.2.1=some Z∧I g.2.1 R g.2.2.2.1∧VRep (tSl true (qc .i64)) R g.2.2.2.2 g.2.2.1∧True) (fun g=>g.1) (N,s0,(mk (↑p0_.rows.length:Int) (0:Int)),O,K) prm ⟨a,(t _ _ _ _ d h0),P,trivial⟩ ?_
 clear a;rintro⟨q,z,C,E,k⟩ af ag j ⟨a,F,u,_⟩;rcases q with _|q;exact j4 a;replace a:z0i N σ B p0_ (q+1) z C=some Z:=a;rw [z0i] at a;refine q8 (zn (zh yv (zh k ?_)));obtain⟨w,Q,a⟩:=zm a
 refine zf4 (vs:=[k]) (J:=[]) (Oc:=E) (A:=A) rfl rfl rfl rfl (hy C z w.1 w.2 _ _ [k] (d.trans j) ⟨k,rfl,(Sub.v (B:=(tSl false (qc .i64))) (ku Sub.refl (fun _=>rfl)) u)⟩ F Q) fun ah n b o=>?_;refine z8 (zw rfl a (fun a=>?_) (fun a=>?_))
 refine qa (zy (zn (qh rfl z19 rfl (l.mono (((r.trans d).trans j).trans b)) fun ai S=>?_)));refine zh k ?_;obtain⟨U,V,a⟩:=zm a;refine j3 rfl q9t rfl (zhe S (Sub.v (B:=(tSl false (qc .i64))) (ku Sub.refl (fun _=>rfl)) (u.mono b)) V) fun p aj e G=>?_
 refine zf p (z8 (q8 (zn (zh k (zh p ?_)))));obtain⟨ak,W,a⟩:=zm a;refine j3 rfl q95 rfl (zfu (Sub.v (B:=(tSl false (qc .i64))) (ku Sub.refl (fun _=>rfl)) (u.mono (b.trans e))) (Sub.v (B:=(tSl false (qc .i64))) (ku Sub.refl (fun _=>rfl)) G) W) fun al am f X=>?_;obtain rfl:=X
 refine z8 (zw rfl a (fun a=>?_) (fun a=>?_));refine qp ?_;obtain rfl:=Option.some.inj a;refine z1u (D:=[]) (J:=[]) (O':=n) (rs:=[]) (vs:=[]) ((((d.trans j).trans b).trans e).trans f) (List.Perm.refl _) rfl trivial ?_;exact(t _ _ _ _ (e.trans f) o);refine qa (zz (zh p (zf p (z8 ?_))))
 exact⟨dkt,((b.trans e).trans f),jq,(q,w.2,U,n,p),Nat.lt_succ_self _,⟨rfl,trivial⟩,prm,a,(t _ _ _ _ (e.trans f) o),(G.mono f),trivial⟩;refine jm ?_;show zft _ _ _ _ _ .ret _ [] _ _;obtain rfl:=Option.some.inj a
 refine z1u (D:=[]) (J:=[]) (O':=n) (rs:=[]) (vs:=[]) ((d.trans j).trans b) (List.Perm.refl _) rfl trivial ?_;exact o
theorem q9j:Enters prog 86:=enters_of func86 rfl (by kernel_rfl)
theorem zsk: ∀ w,(isAgg 32).run prog w= .ok false w:=fun w=>by kernel_rfl
theorem zbq{N:Nat}{R:RH}{m:Mach}{F:Value}(o:VRep (qz false false) R F m){r:(List Int)×Int×Int}(a:z4e N m=some r):CallP prog 47 #[F] R (fun v R'=> ∃ u0,v= .tuple #[u0,(vi r.2.1),(vi r.2.2)]∧VRep (tSl false (qc .i64)) R' u0 r.1):=by
 refine qf (args:=[F]) func47 rfl rfl fun A=>?_;rw [z4e] at a;refine zn (ky (T:=(qz false false)) rfl rfl rfl o fun v1 R3 k h5 h2=>?_);refine kv rfl q8v fun t=>?_;refine kv rfl za3 fun u=>?_;refine zf (vi 0) (z8 (q8 (zn (zq (jl z19 rfl rfl h5 (o.mono k)) ?_))))
 obtain⟨p,X,a⟩:=zm a;refine j3 rfl zie rfl (mi (o.mono k) X) fun av aw d Y=>?_;obtain rfl:=Y;refine zf (vi p) (qw (zh (vi p) (zq (vk rfl rfl) (z8 (zw rfl a (fun a=>?_) (fun a=>?_))))))
 refine zn (zh (vi p) (jd (i:=1) (vs:=[vs0]) q1n rfl rfl rfl rfl rfl rfl (zu rfl jh) ?_));refine jd (i:=0) (vs:=[(vi 0)]) sz3 rfl rfl rfl rfl rfl rfl (zu rfl jh) ?_;refine zf (vi p) (z8 (qp ?_));obtain rfl:=Option.some.inj a
 refine q9 (D:=[]) (J:=[box u [(vi 0)] 3,box t [vs0] 32]) (rs:=[.cell 2 32,.cell 3 3,.tmp 4]) (vs:=[vs0,(vi 0),(vi p)]) (k.trans d) rfl rfl ⟨⟨_,rfl,fun w G=>zez (i:=1) G rfl rfl zsk  ⟩,⟨_,rfl,fun w G=>zez (i:=0) G rfl rfl ag3  ⟩,rfl,trivial⟩ ?_;exact⟨rfl,⟨vs0,rfl,z7x⟩⟩
 refine qa (zn (jd (i:=0) (vs:=[(vi (-1))]) sz3 rfl rfl rfl rfl rfl rfl (zu rfl jh) ?_));refine z8 (q8 (zn (zq (jl z19 rfl rfl (h5.mono d) (o.mono (k.trans d))) ?_)));obtain⟨ax,Z,a⟩:=zm a;refine j3 rfl qae rfl (ziq (o.mono (k.trans d)) Z) fun ay az M aa=>?_
 obtain⟨aA,rfl,ab⟩:=aa;refine z8 (zy ?_);obtain⟨g,ac,a⟩:=zm a
 refine zhh (Oc:=[box u [(vi (-1))] 3,box t [vs0] 32]) (Or:=A) _ (fun(s:(List Int)×Int) R O=> ∃ (n:Value),(∃ J,O.Perm (J++[box t [n] 32,box u [(vi s.2)] 3]))∧VRep (tSl false (qc .i64)) R n s.1∧True) (fun(s:(List Int)×Int) (c:Code) R O=>False) _ _ rfl q9j (zgn (N:=N) ab) (List.Perm.refl _) (by decide) (by rintro _ _ _ ⟨_,rfl,_⟩;rfl) (by rintro s R2 R3 O2 j ⟨n,P,Q,_⟩;exact⟨n,P,Q.mono j,trivial⟩) (fun _ _ _ _ _ _ h=>h) (fun _ _ _ _ _ h=>h.elim) ⟨vs0,⟨[],(pk 1 rfl (pk 0 rfl (List.Perm.refl _)))⟩,z7x,trivial⟩ ac ?_ ?_ ?_
 rintro aB H aC aD ak aE al am an S ⟨n,⟨_,P⟩,Q,_⟩ z aF;have x:=z;clear z;(try dsimp only at x);refine zf2 (zgy P) ?_;obtain⟨q,rfl,I⟩:=S;refine zz (zf q (z8 ?_));refine⟨rfl,rfl,(RH.le.refl _),[box t [n] 32,box u [(vi H.2)] 3],List.Perm.refl _,fun aG=>?_⟩
 refine zy (zn (zh q (jd (i:=0) (vs:=[q]) q1n rfl rfl (z4o I) rfl rfl rfl (zu (z2g I) jh) ?_)));refine z8 (zz (zq (qi (i:=1) ag3 rfl rfl rfl) ?_));obtain⟨ad,x⟩:=ze x;refine zq (jf rfl rfl ad) (jd (i:=1) (vs:=[(vi (H.2+1))]) sz3 rfl rfl rfl rfl rfl rfl (zu rfl jh) ?_)
 refine z8 ?_;obtain⟨rfl,rfl⟩:=Prod.mk.inj (Option.some.inj x);exact⟨rfl,(RH.le.refl _),[box t [q] 32,box u [(vi (H.2+1))] 3],List.Perm.refl _,rfl,⟨q,⟨[],List.Perm.refl _⟩,I,trivial⟩⟩;rintro aH aI ao U ⟨f,⟨_,P⟩,K,_⟩;refine⟨_,_,P,?_⟩
 refine q8 (zd8 [2,3] [(fun es=>phX f),(fun es=>phX (vi g.2)),(fun es=>(fun _ _=>True)),(fun es=>(fun _ _=>True)),(fun es=>phX (vi 0))] (fun fl es R O=>(fl=[false,false]∧O.Perm ([box t [f] 32,box u [(vi g.2)] 3]++A)∧True)∨(fl=[true,false]∧O.Perm ([box t [f] 32,box u [(vi g.2)] 3]++A)∧True)∨(fl=[true,true]∧O.Perm ([box t [f] 32,box u [(vi g.2)] 3]++A)∧True)) mixed (by kernel_rfl) ⟨(kz zi),(kz zi),(fun _ _ _ _ _ h=>h),(fun _ _ _ _ _ h=>h),(kz zi),trivial⟩ (by rintro fl es R R' O j (⟨rfl,b,_⟩|⟨rfl,b,_⟩|⟨rfl,b,_⟩);exact(.inl ⟨rfl,b,trivial⟩);exact(.inr (.inl ⟨rfl,b,trivial⟩));exact(.inr (.inr ⟨rfl,b,trivial⟩))) ⟨(fun _ _ _ _ _ h=>h),(fun _ _ _ _ _ h=>h),(fun _ _ _ _ _ h=>h),(fun _ _ _ _ _ h=>h),(fun _ _ _ _ _ h=>h),trivial⟩ (fun es=> .inl ⟨rfl,(List.Perm.refl _),trivial⟩) ⟨?_,?_,?_,?_,?_,trivial⟩ fun aJ B=>?_)
 intro l aK fl O j y L C E;rcases E with⟨rfl,b,_⟩|⟨rfl,b,_⟩|⟨rfl,b,_⟩;exact zak b (zt (qi (i:=0) zsk (y 2 rfl) rfl rfl));exact z5r C (by kernel_rfl);exact z5r C (by kernel_rfl);intro l aL fl O j y L C E;rcases E with⟨rfl,b,_⟩|⟨rfl,b,_⟩|⟨rfl,b,_⟩;exact zak b (zt (qi (i:=1) ag3 (y 3 rfl) rfl rfl))
 exact zak b (zt (qi (i:=1) ag3 (y 3 rfl) rfl rfl));exact z5r C (by kernel_rfl);intro l aM fl O j y L C V E;obtain⟨W,d1,d2,_⟩:=L;rcases E with⟨rfl,b,_⟩|⟨rfl,b,_⟩|⟨rfl,b,_⟩;refine af b ?_
 refine Eff.mono (z3o (i:=0) (vs:=[f]) q1n (y 2 rfl) (W rfl) (z4o K) rfl rfl (Nat.le_of_ble_eq_true rfl) (zu (z2g K) jh)) ?_;rintro v R' O' hle' ⟨_,rfl,rfl⟩;exact⟨trivial,.inr (.inl ⟨rfl,(List.Perm.refl _),trivial⟩)⟩;cases V;cases V;intro l aN fl O j y L C V E;obtain⟨W,d1,d2,d3,d4,_⟩:=L
 rcases E with⟨rfl,b,_⟩|⟨rfl,b,_⟩|⟨rfl,b,_⟩;exact z5r C (by kernel_rfl);refine af b ?_;refine Eff.mono (z3o (i:=1) (vs:=[(vi g.2)]) sz3 (y 3 rfl) (W rfl) rfl rfl rfl (Nat.le_of_ble_eq_true rfl) (zu rfl jh)) ?_;rintro v R' O' hle' ⟨_,rfl,rfl⟩;exact⟨trivial,.inr (.inr ⟨rfl,(List.Perm.refl _),trivial⟩)⟩;cases V
 intro l aQ fl O j y L C E;obtain⟨W,d1,d2,d3,d4,_⟩:=L;exact zt (ni rfl);intro aR aS aT ae ag ah;rintro ar (⟨e,_⟩|⟨e,_⟩|⟨_,b,_⟩);cases e;cases e;refine⟨[],_,b,?_⟩;obtain rfl:=Eq.symm ae;obtain rfl:=Eq.symm ag;obtain rfl:=Eq.symm ah;refine z8 (qp ?_);obtain rfl:=Option.some.inj a
 refine q9 (D:=[]) (J:=[box t [f] 32,box u [(vi g.2)] 3]) (rs:=[.cell 2 32,.cell 3 3,.tmp 4]) (vs:=[f,(vi g.2),(vi 0)]) ((((k.trans d).trans M).trans U).trans B) rfl rfl ⟨⟨_,rfl,fun w G=>zez (i:=0) G rfl rfl zsk  ⟩,⟨_,rfl,fun w G=>zez (i:=1) G rfl rfl ag3  ⟩,rfl,trivial⟩ ?_
 exact⟨rfl,⟨f,rfl,(K.mono B)⟩⟩;exact fun _ _ _ _ _ h=>h.elim
theorem q6w:Enters prog 47:=enters_of func47 rfl (by kernel_rfl)
theorem ko3:KOk prog 3 (Value.int .i64):=q2i underlying3
theorem zdx{N:Nat}{R:RH}{d:(List Int)}{e:Value}(p:VRep (tSl false (qc .i64)) R e d){r:(List Int)×(List Int)}(n:z3f N d=some r):CallP prog 69 #[e] R (fun v R'=> ∃ u0 u1,v= .tuple #[u0,u1]∧VRep (tSl false (qc .i64)) R' u0 r.1∧VRep (tSl true (qc .i64)) R' u1 r.2):=by
 refine qf (args:=[e]) func69 rfl rfl fun A=>?_;rw [z3f] at n;refine zn (zf vs0 (zf vs0 (qw (zf vs0 (qw (zg7 (ke:=(Value.int .i64)) (ve:=(Value.int .i64)) rfl fun P f2 h3=>?_))))));refine zf P (qw (zh e (zq (qj rfl underlying32 rfl (ja p)) ?_)))
 obtain⟨g9,n⟩:=ze n;refine z8k (T:=(qc .i64)) (m:=(↑d.length:Int).toNat) (c:=(↑d.length:Int).toNat) rfl underlying32 zo3 (zl rfl g9.1) (zl rfl g9.1) (Nat.le_refl _) (zbo g9) (zbn g9) fun q f6 Q h8=>?_;refine zf q (z8 ?_);obtain⟨o,b,n⟩:=zm n
 refine j6 (γ:=(List Int×List Int)×Value×Frag×Frag) (rs [4,5,7,11,15,45]) (fun g=>[(4,g.2.1)]) (fun g=>[g.2.2.2,g.2.2.1]++A) (fun g R=>o=g.1∧ORep (qc .i64) R g.2.2.1 g.2.1 g.1.1∧ORep (qc .i64) R g.2.2.2 q g.1.2∧capOf q=g.1.2.length∧True) ?_ ?_
 refine zn (zh e (zq (qj rfl underlying32 rfl (ja p)) (zh (vi 0) (z8 (zy (z2j ?_))))))
 refine jg (γ:=Nat×(List Int)×Int×(List (Int×Int))×(List Int)×Value×Frag×Frag×Frag) (rs [4,5,7,11,17,45]) (fun g=>[(4,g.2.2.2.2.2.1),(17,(vi g.2.2.1))]) (fun g=>[g.2.2.2.2.2.2.2.1,g.2.2.2.2.2.2.2.2,g.2.2.2.2.2.2.1]++A) (fun g R=>nz N d g.1 g.2.1 g.2.2.1 g.2.2.2.1 g.2.2.2.2.1=some o∧ORep (qc .i64) R g.2.2.2.2.2.2.1 g.2.2.2.2.2.1 g.2.1∧MRep (Value.int .i64) (Value.int .i64) R g.2.2.2.2.2.2.2.1 P g.2.2.2.1∧ORep (qc .i64) R g.2.2.2.2.2.2.2.2 q g.2.2.2.2.1∧capOf q=g.2.2.2.2.1.length∧True) (fun g=>g.1) (N,[],0,[],(mk (↑d.length:Int) (0:Int)),vs0,emp,f2,f6) ⟨[],(pk 2 rfl (pk 1 rfl (pk 0 rfl (List.Perm.refl _))))⟩ ⟨b,(l9 (T:=(qc .i64))),h3,h8,(Q.trans List.length_replicate.symm),trivial⟩ ?_
 clear b;rintro⟨y,h,a,f,I,z,S,U,V⟩ aO aP E ⟨b,C,K,L,F,_⟩;rcases y with _|y;exact j4 b;replace b:nz N d (y+1) h a f I=some o:=b;rw [nz] at b;refine zn (zq (jc rfl rfl) (z8 (q8 (zw rfl b (fun b=>?_) (fun b=>?_)))))
 refine qa (q8 (zy (zn (zh (vi a) ?_))));obtain⟨W,b⟩:=ze b;refine kw (i:=a.toNat) rfl z02 rfl (ja (p.mono E)) (zl rfl W.1) (qb W) fun aQ af=>?_;refine qh rfl ty3 rfl af fun aR ag=>?_;obtain rfl:=jb.1 ag;refine zf (vi a) (zf (vi (ix d a)) (z8 ?_))
 obtain⟨s,l,b⟩:=zm b;refine j6 (γ:=(List Int×List (Int×Int))×Value×Frag×Frag) (rs [4,5,9,11,22,38]) (fun g=>[(4,g.2.1)]) (fun g=>[g.2.2.1,g.2.2.2,V]++A) (fun g R=>s=g.1∧ORep (qc .i64) R g.2.2.1 g.2.1 g.1.1∧MRep (Value.int .i64) (Value.int .i64) R g.2.2.2 P g.1.2∧True) ?_ ?_
 refine zn (zh P (zh (vi (ix d a)) (zq (zjf (k:=(ix d a)) underlying128 ko3 mz3 (zh2 (i:=0) rfl K) rfl rfl) (zh (.tuple #[(vi (z4x (0:Int) f (ix d a))),(.bool (z6e f (ix d a)))]) (zq (qm rfl rfl) (zq (qm rfl rfl) (zf (vi (z4x (0:Int) f (ix d a))) (zf (.bool (z6e f (ix d a))) (qw (zh (.bool (z6e f (ix d a))) (zq (ow rfl) (z8 (zw rfl l (fun l=>?_) (fun l=>?_))))))))))))))
 refine zn (zh P (zh (vi (ix d a)) (zh z (zq (zax rfl underlying32 rfl C) (zcz (i:=0) (k:=(ix d a)) (u:=(↑h.length:Int)) underlying128 ko3 rfl K rfl rfl rfl fun ah ai=>?_)))))
 refine z8 (zz (zh z (zh (vi a) (rf (T:=(qc .i64)) (X:=([a]:List Int)) (ps:=[(0,(vi a))]) (css:=[[(vi a)]]) rfl underlying32 zo3 rfl rfl (uh ⟨rfl,trivial⟩) rfl rfl (by decide) fun aj aS M ak=>?_))));refine wu (i:=0) rfl ak fun al t am=>?_
 have an:VRep (tSl true (qc .i64)) al aj ([a]:List Int):=(z1b am M);obtain⟨Z,l⟩:=ze l;refine bu (i:=2) (X:=h) (Y:=([a]:List Int)) rfl underlying32 zo3 rfl rfl rfl (C.mono t) (ja (Sub.v (B:=(tSl false (qc .i64))) (ku Sub.refl (fun _=>rfl)) an)) Z.1 Z.2 fun aa ao ap=>?_;refine zf aa (z8 ?_)
 exact⟨dkt,t,jq,(((h++([a]:List Int)),(z98 f (ix d a) (↑h.length:Int))),aa,ao,ah),⟨rfl,trivial⟩,⟨[],(pk 2 rfl (pk 0 rfl (pk 0 rfl (List.Perm.refl _))))⟩,(Option.some.inj l).symm,ap,(ai.mono t),trivial⟩;refine qa ?_
 exact⟨dkt,(RH.le.refl _),jq,((h,f),z,S,U),⟨rfl,trivial⟩,⟨[],(pk 2 rfl (pk 0 rfl (pk 0 rfl (List.Perm.refl _))))⟩,(Option.some.inj l).symm,C,K,trivial⟩;rintro⟨s,aq,ar,au⟩ aT aU w ⟨rfl,av,ab,_⟩
 refine zz (zh q (zh (vi a) (zh P (zh (vi (ix d a)) (zq (zgj (k:=(ix d a)) underlying128 ko3 mz3 (zh2 (i:=1) rfl ab) rfl rfl) ?_)))));obtain⟨O,b⟩:=ze b;refine lm (i:=a.toNat) rfl z02 rfl (L.mono w) (zl rfl O.1) (qb O) fun aV aw=>?_
 refine z3n (i:=a.toNat) (j:=2) ty3 (L.mono w) rfl rfl aw (qb O) rfl (jb.2 rfl) fun ax ay=>?_;refine z8 (zz ?_);obtain⟨az,b⟩:=ze b;refine zq (jf rfl rfl az) (zh (vi (a+1)) (z8 ?_))
 exact⟨dkt,w,jq,(y,s.1,a+1,s.2,(up I a (z4x (0:Int) s.2 (ix d a))),aq,ar,au,ax),Nat.lt_succ_self _,⟨rfl,rfl,trivial⟩,⟨[],(pk 1 rfl (pk 1 rfl (pk 0 rfl (List.Perm.refl _))))⟩,b,av,ab,ay,(F.trans List.length_set.symm),trivial⟩;refine jm ?_
 exact⟨dkt,E,jq,((h,I),z,S,V),⟨rfl,trivial⟩,⟨[U],(List.Perm.refl _)⟩,(Option.some.inj b).symm,C,L,F,trivial⟩;rintro⟨o,x,aW,aX⟩ aY aZ ac ⟨rfl,aA,aB,ad,_⟩;refine zn (zh x (zh q (zf x (zf q (z8 (rz (i:=1) rfl aA fun aC G aD=>?_))))))
 have aE:VRep (tSl false (qc .i64)) aC x o.1:=(z4u aD);refine rz (i:=0) rfl (aB.mono G) fun aF H aG=>?_;have aH:VRep (tSl true (qc .i64)) aF q o.2:=(z1b aG ad);refine qp ?_;obtain rfl:=Option.some.inj n;refine q9 (D:=[]) (J:=[]) (rs:=[.tmp 2,.tmp 3]) (vs:=[x,q]) ((ac.trans G).trans H) rfl rfl ⟨rfl,rfl,trivial⟩ ?_
 exact⟨rfl,⟨x,q,rfl,(aE.mono H),aH⟩⟩
theorem qaj:Enters prog 69:=enters_of func69 rfl (by kernel_rfl)
theorem qa6:Enters prog 70:=enters_of func70 rfl (by kernel_rfl)
theorem zb9{N:Nat}{R:RH}{s:(List Edge)}{b:Value}(c:VRep (tSl false kEdge) R b s){r:(List Edge)}(a:z2r N s=some r):CallG prog 70 #[b] R [] (fun v R' O'=> ∃ u0_0 g0_0,v=u0_0∧O'=[g0_0]∧ORep kEdge R' g0_0 u0_0 r):=by
 refine z3l (args:=[b]) func70 rfl rfl fun A=>?_;rw [z2r] at a;refine zn (zf vs0 (z8 (q8 (zn (zh b (zq (zxc underlying56 rfl rfl (zyk (ja c))) (z8 (zf3 rfl (fun g=>?_) (fun g=>?_)))))))));obtain rfl:=q1u (ja c) g
 replace a:some ([]:(List Edge))=some r:=(ze a).2;refine zn (zf vs0 (z8 (z2j ?_)));refine qp ?_;obtain rfl:=Option.some.inj a;refine z1u (D:=[]) (J:=[]) (O':=[emp]) (rs:=[.tmp 2]) (vs:=[vs0]) (RH.le.refl _) ((pk 0 rfl (List.Perm.refl _))) rfl ⟨rfl,trivial⟩ ?_
 exact⟨vs0,emp,rfl,rfl,(l9 (T:=kEdge))⟩;refine qa (zn (rf (T:=kEdge) (X:=([]:List Edge)) (ps:=[]) (css:=[]) rfl underlying56 zc1 rfl rfl (uh trivial) rfl rfl (by decide) fun l m h k=>?_));refine zh b ?_;obtain⟨j,a⟩:=ze a
 refine bu (i:=0) (X:=([]:List Edge)) (Y:=s) rfl underlying56 zc1 rfl rfl rfl k (ja c) j.1 j.2 fun e d f=>?_;refine zf e (z8 (qp ?_));obtain rfl:=Option.some.inj a;refine z1u (D:=[]) (J:=[]) (O':=[d]) (rs:=[.tmp 2]) (vs:=[e]) (RH.le.refl _) ((pk 0 rfl (List.Perm.refl _))) rfl ⟨rfl,trivial⟩ ?_;exact⟨e,d,rfl,rfl,f⟩
theorem zly:zcv kEdge 0 (qc .i64) (fun(x:Edge) (y:Int)=>(⟨y,x.out⟩:Edge)):=q7l q6i (fun _ _=>rfl)
theorem zdg{N:Nat}{R:RH}{s:(List Edge)}{a:Value}(b:VRep (tSl false kEdge) R a s){r:(List Edge)}(c:z4h N s=some r):CallP prog 71 #[a] R (fun v R'=>VRep (tSl true kEdge) R' v r):=by
 refine qf (args:=[a]) func71 rfl rfl fun A=>?_;rw [z4h] at c;refine zn (zf vs0 (qw (zh a (zh a (zq (qj rfl underlying56 rfl (ja b)) (zh a (zq (qj rfl underlying56 rfl (ja b)) ?_)))))));obtain⟨d,c⟩:=ze c
 refine zc6 (v:=a) (lo:=(0:Int).toNat) (hi:=(↑s.length:Int).toNat) (mx:=(↑s.length:Int).toNat) rfl z7u rfl (ja b) (.inl ⟨rfl,rfl⟩) (.inr ⟨_,congrArg some (zl rfl (zht d))⟩) (.inr ⟨_,congrArg some (zl rfl (zht d))⟩) (zdl d) (z7l d) (Nat.le_refl _) (Nat.le_trans (z7l d) (ztr (ja b))) (X':=(cut s 0 (↑s.length:Int))) rfl fun f g e=>?_
 have h:VRep (tSl true kEdge) R f (cut s 0 (↑s.length:Int)):=z1b g (e.trans (zp3 d).symm);refine zf f (z8 (qp ?_));obtain rfl:=Option.some.inj c;refine q9 (D:=[]) (J:=[]) (rs:=[.tmp 2]) (vs:=[f]) (RH.le.refl _) rfl rfl ⟨rfl,trivial⟩ ?_;exact⟨rfl,h⟩
theorem qa5:Enters prog 71:=enters_of func71 rfl (by kernel_rfl)
theorem zg2{N:Nat}{R:RH}{m:Mach}{ai:Value}(aX:VRep (qz false false) R ai m){p:(List Int)}{U:Value}(aY:VRep (tSl false (qc .i64)) R U p){r:Mach×(List Int)}(y:z5c N m p=some r):CallP prog 48 #[ai,U] R (fun v R'=> ∃ u0 u1,v= .tuple #[u0,u1]∧VRep (qz false true) R' u0 r.1∧VRep (tSl true (qc .i64)) R' u1 r.2):=by
 refine qf (args:=[ai,U]) func48 rfl rfl fun A=>?_;rw [z5c] at y;refine zn (ky (T:=(qz false false)) rfl rfl rfl aX fun v1 R3 aq h5 h2=>?_);refine kv rfl z5j fun b6=>?_;refine zf vs0 (qw (zh U ?_));obtain⟨y8,c9,y⟩:=zm y
 refine j3 rfl qaj rfl (zdx (aY.mono aq) c9) fun bO bP t a0=>?_;obtain⟨aj,o,rfl,ar,au⟩:=a0;refine zh (.tuple #[aj,o]) (zq (qm rfl rfl) (zq (qm rfl rfl) (zf aj (zf o (qw (jo rfl av lw rfl (h2.mono t) fun bQ a1=>?_))))));refine qh rfl ty3 rfl a1 fun bR a2=>?_
 obtain rfl:=jb.1 a2;refine jo rfl z6o z5d rfl (h2.mono t) fun bS a3=>?_;refine qh rfl ty3 rfl a3 fun bT a4=>?_;obtain rfl:=jb.1 a4
 refine zq (yt (ps:=[(0,(vi m.inputs)),(1,(vi m.outputs))]) (v:=(.agg #[(vi m.inputs),(vi m.outputs),vs0])) rfl (fun w=>by kernel_rfl)) (kv rfl z5j fun n=>?_)
 refine jd (i:=0) (vs:=[(vi m.inputs),(vi m.outputs),vs0]) yh rfl rfl rfl rfl rfl rfl (zu rfl (zu rfl (zu rfl jh))) ?_;refine z8 ?_;obtain⟨z,a,y⟩:=zm y
 refine j6 (γ:=(List (List Edge))×Value×Frag) (rs [10,14,24,64]) (fun g=>[]) (fun g=>[box b6 [(vi 0),(vi 0),vs0] 30,box n [(vi m.inputs),(vi m.outputs),g.2.1] 30,g.2.2]++A) (fun g R=>z=g.1∧ORep (tSl true kEdge) R g.2.2 g.2.1 g.1∧True) ?_ ?_
 refine zn (zh aj (zq (qj rfl underlying32 rfl (ja ar)) (zh (vi 0) (z8 (zy (z2j ?_))))))
 refine jg (γ:=Nat×Int×(List (List Edge))×Value×Frag) (rs [10,14,26,64]) (fun g=>[(26,(vi g.2.1))]) (fun g=>[box b6 [(vi 0),(vi 0),vs0] 30,box n [(vi m.inputs),(vi m.outputs),g.2.2.2.1] 30,g.2.2.2.2]++A) (fun g R=>il N m y8 g.1 g.2.1 g.2.2.1=some z∧ORep (tSl true kEdge) R g.2.2.2.2 g.2.2.2.1 g.2.2.1∧True) (fun g=>g.1) (N,0,[],vs0,emp) ⟨[],(pk 2 rfl (pk 1 rfl (pk 0 rfl (List.Perm.refl _))))⟩ ⟨a,(l9 (T:=(tSl true kEdge))),trivial⟩ ?_
 clear a;rintro⟨V,q,W,s,C⟩ bs bU x ⟨a,aw,_⟩;rcases V with _|V;exact j4 a;replace a:il N m y8 (V+1) q W=some z:=a;rw [il] at a;refine zn (zq (jc rfl rfl) (z8 (q8 (zw rfl a (fun a=>?_) (fun a=>?_)))));refine qa (q8 (zy (zn ?_)))
 obtain⟨ax,a⟩:=ze a;refine kw (i:=q.toNat) rfl z02 rfl (ja (ar.mono x)) (zl rfl ax.1) (qb ax) fun bV a5=>?_;refine qh rfl ty3 rfl a5 fun bW a6=>?_;obtain rfl:=jb.1 a6;refine zf (vi (ix y8.1 q)) (qw (jo rfl uf u6 rfl (h2.mono (t.trans x)) fun bX a7=>?_))
 refine qh rfl z1g rfl a7 fun bY a8=>?_;refine zh (vi (ix y8.1 q)) ?_;obtain⟨ay,a⟩:=ze a;refine kw (i:=(ix y8.1 q).toNat) rfl z5u rfl (ja a8) (zl rfl ay.1) (qb ay) fun bZ a9=>?_;refine qh rfl z5t rfl a9 fun ba bb=>?_;obtain⟨ak,bc,a⟩:=zm a
 refine z9f (Oc:=[]) (Or:=[box b6 [(vi 0),(vi 0),vs0] 30,box n [(vi m.inputs),(vi m.outputs),s] 30,C]++A) (cs:=[]) (vs:=[ba]) rfl qa6 rfl rfl ((pk 0 rfl (pk 0 rfl (pk 0 rfl (List.Perm.refl _))))) (zb9 bb bc) fun e b0 bt G be=>?_;obtain⟨_,bf,rfl,rfl,az⟩:=be;refine zf e (z8 ?_)
 obtain⟨H,c,a⟩:=zm a;refine j6 (γ:=(List Edge)×Frag) (rs [12,14,36,56]) (fun g=>[]) (fun g=>[box b6 [(vi 0),(vi 0),vs0] 30,box n [(vi m.inputs),(vi m.outputs),s] 30,C,g.2]++A) (fun g R=>H=g.1∧ORep kEdge R g.2 e g.1∧True) ?_ ?_
 refine zn (zh e (zq (zax rfl underlying56 rfl az) (zh (vi 0) (z8 (zy (jg (γ:=Nat×Int×(List Edge)×Frag) (rs [12,14,38,56]) (fun g=>[(38,(vi g.2.1))]) (fun g=>[box b6 [(vi 0),(vi 0),vs0] 30,box n [(vi m.inputs),(vi m.outputs),s] 30,C,g.2.2.2]++A) (fun g R=>iw N y8 ak g.1 g.2.1 g.2.2.1=some H∧ORep kEdge R g.2.2.2 e g.2.2.1∧True) (fun g=>g.1) (N,0,ak,bf) ⟨[],(pk 1 rfl (pk 1 rfl (pk 1 rfl (pk 0 rfl (List.Perm.refl _)))))⟩ ⟨c,az,trivial⟩ ?_))))))
 clear c;rintro⟨Z,b,d,al⟩ bv b1 ac ⟨c,E,_⟩;rcases Z with _|Z;exact j4 c;replace c:iw N y8 ak (Z+1) b d=some H:=c;rw [iw] at c;refine zn (zq (jc rfl rfl) (z8 (q8 (zw rfl c (fun c=>?_) (fun c=>?_)))));refine qa ?_;obtain⟨am,f,c⟩:=zm c
 refine j6 (γ:=(List Edge)×Frag) (rs [12,14,40,55]) (fun g=>[]) (fun g=>[box b6 [(vi 0),(vi 0),vs0] 30,box n [(vi m.inputs),(vi m.outputs),s] 30,C,g.2]++A) (fun g R=>am=g.1∧ORep kEdge R g.2 e g.1∧True) ?_ ?_;refine zy (zn (zh (vi b) ?_));obtain⟨an,f⟩:=ze f
 refine lm (i:=b.toNat) rfl z7u rfl E (zl rfl an.1) (qb an) fun b2 bg=>?_;refine zb0 (i:=b.toNat) (j:=3) rfl za1 E rfl rfl bg (qb an) fun b3 bh=>?_;obtain rfl:=df.1 bh;refine kv rfl za8 fun ao=>?_
 refine zf (vi b) (jd (i:=0) (vs:=[(vi ((ix d b).to)),(vi ((ix d b).out))]) z6s rfl rfl rfl rfl rfl rfl (zu rfl (zu rfl jh)) ?_);refine qw (zq (qd l5 rfl) (zq (qi (i:=0) ag3 rfl rfl rfl) (zq (vk rfl rfl) (z8 (zw rfl f (fun f=>?_) (fun f=>?_))))))
 refine zz (zh e (zh (vi b) (zh o (zq (qd l5 rfl) (zq (qi (i:=0) ag3 rfl rfl rfl) ?_)))));obtain⟨aA,f⟩:=ze f;refine kw (i:=((ix d b).to).toNat) rfl z02 rfl (ja (au.mono ((x.trans G).trans ac))) (zl rfl aA.1) (qb aA) fun b4 bi=>?_;refine qh rfl ty3 rfl bi fun bw aB=>?_
 obtain rfl:=jb.1 aB;obtain⟨I,f⟩:=ze f;refine lm (i:=b.toNat) rfl z7u rfl E (zl rfl I.1) (qb I) fun bx aC=>?_;refine z6c rfl (zin l5 rfl aC) fun ad bA K L=>?_;replace L:zao kEdge 0 e d ad b.toNat:=L
 refine zek (Oc:=[al]) (Or:=[box ao [(vi ((ix d b).to)),(vi ((ix d b).out))] 62,box b6 [(vi 0),(vi 0),vs0] 30,box n [(vi m.inputs),(vi m.outputs),s] 30,C]++A) (pk 4 rfl (pk 0 rfl (pk 0 rfl (pk 0 rfl (pk 0 rfl (List.Perm.refl _)))))) (znv (i:=b.toNat) (u:=ad) zly ty3 (E.mono K) rfl L (qb I) rfl (jb.2 rfl)) ?_
 rintro bB bC bj bk ⟨rfl,aD,rfl,aE⟩;refine z8 ?_;exact⟨dkt,K,jq,((up d b (⟨(ix y8.2 ((ix d b).to)),(ix d b).out⟩:Edge)),aD),trivial,⟨[box ao [(vi ((ix d b).to)),(vi ((ix d b).out))] 62],(pk 1 rfl (pk 1 rfl (pk 1 rfl (pk 1 rfl (pk 0 rfl (List.Perm.refl _))))))⟩,(Option.some.inj f).symm,aE,trivial⟩;refine qa ?_
 exact⟨dkt,(RH.le.refl _),jq,(d,al),trivial,⟨[box ao [(vi ((ix d b).to)),(vi ((ix d b).out))] 62],(List.Perm.refl _)⟩,(Option.some.inj f).symm,E,trivial⟩;rintro⟨am,bl⟩ bD b5 aF ⟨rfl,bm,_⟩;refine zz ?_;obtain⟨aG,c⟩:=ze c;refine zq (jf rfl rfl aG) (zh (vi (b+1)) (z8 ?_))
 exact⟨dkt,aF,jq,(Z,b+1,am,bl),Nat.lt_succ_self _,⟨rfl,trivial⟩,prm,c,bm,trivial⟩;refine jm ?_;exact⟨dkt,ac,jq,(d,al),trivial,prm,(Option.some.inj c).symm,E,trivial⟩;rintro⟨H,b7⟩ bE b8 ae ⟨rfl,bn,_⟩;refine rz (i:=3) rfl bn fun aH M aI=>?_;have aJ:VRep (tSl false kEdge) aH e H:=(z4u aI)
 obtain⟨k,aK,a⟩:=zm a;refine dn 5 [] [phX (.pointer (some ⟨n,2,none⟩)),phX s,phX e,phR (tSl true kEdge) k,phR (tSl true (tSl true kEdge)) ([k]:List (List Edge))] mixed (by kernel_rfl) (yl ⟨zi,zi,zi,bz,bz,trivial⟩) ⟨?_,?_,?_,?_,?_,trivial⟩ fun bF O=>?_;intro l b9 P ha hd
 exact za rfl rfl rfl (zt (qd uf (ha 8 rfl)));rintro l cb P ha ⟨d0,_⟩;exact za rfl rfl rfl (zt (qi (i:=1) zc2 (d0 rfl) rfl rfl));intro l cc P ha hd;exact za rfl rfl rfl (zt (zb (ha 11 rfl)));rintro l cd P ha ⟨d0,_⟩;have bo:l 58=e:=d0 rfl
 exact za rfl rfl rfl (jy (vs:=[e]) qa5 (by simp only [List.map,ev,bo]<;>rfl) (zdg (aJ.mono P) aK) (fun _ _ h=>h));rintro l bp P ha ⟨d0,_⟩;have aM:phR (tSl true kEdge) k (l 59) bp:=d0 rfl
 exact za rfl rfl rfl (z6y (T:=(tSl true kEdge)) (X:=([k]:List (List Edge))) (ps:=[(0,(l 59))]) (css:=[[(l 59)]]) underlying28 zjt rfl (by simp only [List.map_cons,List.map_nil,z4o aM];rfl) (uh ⟨(je rfl aM),trivial⟩) rfl rfl (by decide));intro bG aN bH aO bI aP bJ bK bL aQ;obtain rfl:=Eq.symm aN;obtain rfl:=Eq.symm aO
 obtain rfl:=Eq.symm aP;obtain⟨af,a⟩:=ze a;refine bu (i:=2) (X:=W) (Y:=([k]:List (List Edge))) rfl underlying28 zjt rfl rfl rfl (aw.mono (((G.trans ae).trans M).trans O)) (ja (Sub.v (B:=(tSl false (tSl true kEdge))) (ku Sub.refl (fun _=>rfl)) aQ)) af.1 af.2 fun ag aR Q=>?_
 refine zq (qd uf rfl) (jd (i:=1) (vs:=[ag]) zxp rfl rfl (r9 Q) rfl rfl rfl (zu (z01 Q) jh) ?_);refine z8 (zz ?_);obtain⟨aS,a⟩:=ze a;refine zq (jf rfl rfl aS) (zh (vi (q+1)) (z8 ?_))
 exact⟨dkt,(((G.trans ae).trans M).trans O),jq,(V,q+1,(W++([k]:List (List Edge))),ag,aR),Nat.lt_succ_self _,⟨rfl,trivial⟩,prm,a,Q,trivial⟩;refine jm ?_;exact⟨dkt,x,jq,(W,s,C),trivial,prm,(Option.some.inj a).symm,aw,trivial⟩;rintro⟨z,F,ce⟩ bM cf ah ⟨rfl,aT,_⟩
 refine zn (zq (ql (i:=1) ry yh rfl rfl rfl rfl) (zh o (jd (i:=0) (vs:=[(vi m.inputs),(vi m.outputs),F]) yh rfl rfl rfl rfl rfl rfl (zu rfl (zu rfl (zu (z01 aT) jh))) ?_)));refine zf o (z8 (rz (i:=2) rfl aT fun aU S aV=>?_))
 have aW:VRep (tSl false (tSl true kEdge)) aU F z:=(z4u aV);refine qp ?_;obtain rfl:=Option.some.inj y
 refine q9 (D:=[]) (J:=[box b6 [(vi m.inputs),(vi m.outputs),F] 30,box n [(vi m.inputs),(vi m.outputs),F] 30]) (rs:=[.cell 4 30,.tmp 5]) (vs:=[(.agg #[(vi m.inputs),(vi m.outputs),F]),o]) (((aq.trans t).trans ah).trans S) rfl rfl ⟨⟨_,rfl,fun w hh=>z05 (i:=0) hh rfl rfl ry yh rfl rfl⟩,rfl,trivial⟩ ?_
 exact⟨rfl,⟨(.agg #[(vi m.inputs),(vi m.outputs),F]),o,rfl,(⟨_,⟨_,_,rfl,rfl,⟨_,_,rfl,rfl,(je rfl aW)⟩⟩,rfl⟩:VRep (qz false true) _ _ (⟨m.inputs,m.outputs,z⟩:Mach)),(au.mono (ah.trans S))⟩⟩
theorem qaf:Enters prog 48:=enters_of func48 rfl (by kernel_rfl)
theorem ziz{N:Nat}{R:RH}{m:Mach}{b:Value}(g:VRep (qz false false) R b m){a:Int}{r:Mach×Int}(c:z7w N m a=some r):CallP prog 90 #[b,(vi a)] R (fun v R'=> ∃ i j,v= .func (.func 103) #[] #[i,j]∧PRep (qz false false) R' i r.1∧PRep (qc .i64) R' j r.2):=by
 refine qf (args:=[b,(vi a)]) func90 rfl rfl fun A=>?_;rw [z7w] at c;refine zn (ky (T:=(qz false false)) rfl rfl rfl g fun e n h o k=>?_);refine zey (T:=(qc .i64)) rfl rfl (jb.2 rfl) fun f p d l=>?_
 refine zf .nilFunc (qw (zq (z0p (fs:=[]) (cs:=[e,f]) rfl rfl) (zf (.func (.func 103) #[] #[e,f]) (z8 (qp ?_)))));obtain rfl:=Option.some.inj c;refine q9 (D:=[]) (J:=[]) (rs:=[.tmp 4]) (vs:=[(.func (.func 103) #[] #[e,f])]) (h.trans d) rfl rfl ⟨rfl,trivial⟩ ?_;exact⟨rfl,⟨e,f,rfl,(k.mono d),l⟩⟩
theorem q9s:Enters prog 90:=enters_of func90 rfl (by kernel_rfl)
theorem zo4:ZeroOk prog 4 yz false 1:=by
 obtain⟨i,zv,hi,a,c,d,f⟩:=z4d (P:=prog) (e:=4) (zv:=(.bool false)) (k:=1) (b:=1) (by kernel_rfl);exact⟨i,zv,hi,a,c,d,fun R=>by subst f;exact rfl⟩
theorem zdw:SlOk prog 77 4 yz:=⟨underlying77,ty4⟩
theorem zzh:ZeroOk prog 135 kSwalks_arrival (⟨(0:Int),(0:Int),(0:Int)⟩:Sa) 24:=by
 obtain⟨i,zv,hi,a,c,d,f⟩:=z4d (P:=prog) (e:=135) (zv:=(.agg #[(vi 0),(vi 0),(vi 0)])) (k:=3) (b:=24) (by kernel_rfl);exact⟨i,zv,hi,a,c,d,fun R=>by subst f;exact⟨_,_,rfl,rfl,⟨_,_,rfl,rfl,rfl⟩⟩⟩
theorem q4d:TyOk prog 135 kSwalks_arrival:=by
 obtain⟨i,hi,a⟩: ∃ i,prog.info? 135=some i∧i.size=3:=wy (by kernel_rfl);exact z2n underlying135 hi rfl a
theorem q4j:SlOk prog 159 135 kSwalks_arrival:=⟨underlying159,q4d⟩
theorem q4r: ∀ w,∃ z,(zeroValue 135).run prog w= .ok z w∧z.cells=([.int .i64 0,.int .i64 0,.int .i64 0]:List Value).toArray:=fun w=>⟨(.agg #[(vi 0),(vi 0),(vi 0)]),by kernel_rfl,rfl⟩
theorem q0h: ∀ w,(sizeOf 135).run prog w= .ok 3 w:=fun w=>by kernel_rfl
theorem q7a: ∀ w,(isAgg 135).run prog w= .ok true w:=fun w=>by kernel_rfl
theorem zp0:FieldOk prog 135 0 0:=by
 obtain⟨i,hi,a⟩: ∃ i,prog.info? 3=some i∧i.size=1:=wy (by kernel_rfl);exact ru underlying135 rfl rfl hi (by rw [a];rfl)
theorem zfy{N:Nat}{R:RH}{p0_:Mach}{l:Value}(y:PRep (qz false false) R l p0_){p1_:Int}{n:Value}(z:PRep (qc .i64) R n p1_):zr9 prog 103 [l,n] R (fun(x:Sa) vs R=>vs=[(zaq x)]) (fun σ B s=>z3q N p0_ p1_ σ B s):=by
 intro yv σ B I R1 O s0 s1 o bc h0 e hy;refine z3l (args:=[yv,l,n]) func103 rfl rfl fun A=>?_;dsimp only at e;rw [z3q] at e;refine zn (jo rfl uf u6 rfl (y.mono o) fun v1 h2=>?_);refine qh rfl z1g rfl h2 fun v3 h4=>?_;refine zq (qj rfl underlying28 rfl (ja h4)) ?_;obtain⟨g9,e⟩:=ze e
 refine z8k (T:=yz) (m:=(↑p0_.rows.length:Int).toNat) (c:=(↑p0_.rows.length:Int).toNat) rfl underlying77 zo4 (zl rfl g9.1) (zl rfl g9.1) (Nat.le_refl _) (zbo g9) (zbn g9) fun u f6 av h8=>?_;refine zf u (qw (zh u (qh rfl ty3 rfl (z.mono o) fun bW be=>?_)));obtain rfl:=jb.1 be;obtain⟨al,e⟩:=ze e
 refine lm (i:=p1_.toNat) rfl zdw rfl h8 (zl rfl al.1) (qb al) fun bX bf=>?_;refine z3n (i:=p1_.toNat) (j:=0) ty4 h8 rfl rfl bf (qb al) rfl (ll.2 rfl) fun bg bh=>?_;refine qw (qh rfl ty3 rfl (z.mono o) fun bY bi=>?_);obtain rfl:=jb.1 bi
 refine zq (yt (ps:=[(0,(vi p1_)),(1,(vi (-1))),(2,(vi (-1)))]) (v:=(.agg #[(vi p1_),(vi (-1)),(vi (-1))])) rfl (fun w=>by kernel_rfl)) (rf (T:=kSwalks_arrival) (X:=([(⟨p1_,(-1),(-1)⟩:Sa)]:List Sa)) (ps:=[(0,(.agg #[(vi p1_),(vi (-1)),(vi (-1))]))]) (css:=[[(vi p1_),(vi (-1)),(vi (-1))]]) rfl underlying159 zzh rfl rfl (uh ⟨⟨_,_,rfl,rfl,⟨_,_,rfl,rfl,rfl⟩⟩,trivial⟩) rfl rfl (by decide) fun aw bj bk bl=>?_)
 refine zf aw (z8 (zy (jg (γ:=Nat×σ×(List Bool)×(List Sa)×(List Frag)×Frag×Value×Frag) (rs [5,9,19,68]) (fun g=>[(5,g.2.2.2.2.2.2.1)]) (fun g=>[g.2.2.2.2.2.1,g.2.2.2.2.2.2.2]++(g.2.2.2.2.1++A)) (fun g R=>z0k N σ B p0_ g.1 g.2.1 g.2.2.1 g.2.2.2.1=some s1∧I g.2.1 R g.2.2.2.2.1∧ORep yz R g.2.2.2.2.2.1 u g.2.2.1∧capOf u=g.2.2.1.length∧ORep kSwalks_arrival R g.2.2.2.2.2.2.2 g.2.2.2.2.2.2.1 g.2.2.2.1∧True) (fun g=>g.1) (N,s0,(up (mk (↑p0_.rows.length:Int) false) p1_ true),([(⟨p1_,(-1),(-1)⟩:Sa)]:List Sa),O,bg,aw,bj) ⟨[],(pk 1 rfl (pk 0 rfl (List.Perm.refl _)))⟩ ⟨e,h0,bh,((av.trans List.length_replicate.symm).trans List.length_set.symm),bl,trivial⟩ ?_)))
 clear e;rintro⟨S,ax,ay,a,ad,U,C,V⟩ bE bZ p ⟨e,ae,bm,az,E,_⟩;rcases S with _|S;exact j4 e;replace e:z0k N σ B p0_ (S+1) ax ay a=some s1:=e;rw [z0k] at e;obtain⟨am,b,e⟩:=zm e
 refine zx1 (γ:=(σ×List Bool×List Sa)×(List Frag)×Frag×Value×Frag) (rs [5,9,19,68]) (fun g=>[(5,g.2.2.2.1)]) (fun g=>[g.2.2.1,g.2.2.2.2]++(g.2.1++A)) (fun g R=>am=Ex.go g.1∧I g.1.1 R g.2.1∧ORep yz R g.2.2.1 u g.1.2.1∧capOf u=g.1.2.1.length∧ORep kSwalks_arrival R g.2.2.2.2 g.2.2.2.1 g.1.2.2∧True) zsz ?_ ?_
 refine q8 (zn (zh C (zq (zax rfl underlying159 rfl E) (zq (z6l rfl rfl) (z8 (zw rfl b (fun b=>?_) (fun b=>?_)))))));refine qa (zy (zn (zh C ?_)));obtain⟨an,b⟩:=ze b;refine lm (i:=(0:Int).toNat) rfl q4j rfl E (zl rfl an.1) (qb an) fun b0 bn=>?_
 refine zb0 (i:=(0:Int).toNat) (j:=1) rfl q4d E rfl rfl bn (qb an) fun b1 bo=>?_;obtain rfl:=zfn.1 bo;refine kv rfl q4r fun F=>?_
 refine jd (i:=0) (vs:=[(vi ((ix a 0).fC)),(vi ((ix a 0).fI)),(vi ((ix a 0).fH))]) q0h rfl rfl rfl rfl rfl rfl (zu rfl (zu rfl (zu rfl jh))) ?_;refine qw (zh C ?_);obtain⟨W,b⟩:=ze b
 refine zw2 (v:=C) (lo:=(1:Int).toNat) (hi:=(↑a.length:Int).toNat) (mx:=(capOf C)) rfl q4j rfl E (.inr ⟨_,congrArg some (zl rfl W.1)⟩) (.inl ⟨rfl,rfl,rfl⟩) (.inl ⟨rfl,rfl⟩) (zdl W) (z7l W) (Nat.le_trans (z7l W) (zze E)) (Nat.le_refl _) fun aA bp bq=>?_
 refine zf aA (z8 (q8 (zn (zh yv (zq (ql (i:=0) q7a q0h rfl rfl rfl rfl) ?_)))));obtain⟨ao,br,b⟩:=zm b
 refine zf4 (vs:=[(.agg #[(vi ((ix a 0).fC)),(vi ((ix a 0).fI)),(vi ((ix a 0).fH))])]) (J:=[box F [(vi ((ix a 0).fC)),(vi ((ix a 0).fI)),(vi ((ix a 0).fH))] 135,U,V]) (Oc:=ad) (A:=A) rfl rfl rfl rfl (hy (⟨(ix a 0).fC,(ix a 0).fI,(ix a 0).fH⟩:Sa) ax ao.1 ao.2 _ _ [(.agg #[(vi ((ix a 0).fC)),(vi ((ix a 0).fI)),(vi ((ix a 0).fH))])] p rfl ae br) fun b2 af k ag=>?_
 refine zq (ow rfl) (z8 (zw rfl b (fun b=>?_) (fun b=>?_)));refine qp ?_;replace e:=z1z b e;obtain rfl:=Option.some.inj e
 refine z1u (D:=[]) (J:=[box F [(vi ((ix a 0).fC)),(vi ((ix a 0).fI)),(vi ((ix a 0).fH))] 135,U,V]) (O':=af) (rs:=[]) (vs:=[]) (p.trans k) (List.Perm.refl _) rfl trivial ?_;exact ag;refine qa (zn (jo rfl uf u6 rfl (y.mono ((o.trans p).trans k)) fun b3 bs=>?_))
 refine qh rfl z1g rfl bs fun b4 bt=>?_;refine zq (qd zp0 rfl) (zq (qi (i:=0) ag3 rfl rfl rfl) ?_);obtain⟨aB,b⟩:=ze b;refine kw (i:=((ix a 0).fC).toNat) rfl z5u rfl (ja bt) (zl rfl aB.1) (qb aB) fun b5 bv=>?_;refine qh rfl z5t rfl bv fun b6 aC=>?_
 refine zq (qj rfl underlying56 rfl (ja aC)) (zh (vi 0) (z8 (zy (jg (γ:=Nat×σ×Int×(List Bool)×(List Sa)×(List Frag)×Frag×Value×Frag) (rs [5,6,7,9,38,68]) (fun g=>[(5,g.2.2.2.2.2.2.2.1),(38,(vi g.2.2.1))]) (fun g=>[g.2.2.2.2.2.2.1,g.2.2.2.2.2.2.2.2,box F [(vi ((ix a 0).fC)),(vi ((ix a 0).fI)),(vi ((ix a 0).fH))] 135]++(g.2.2.2.2.2.1++A)) (fun g R=>iy N σ p0_ a g.1 g.2.1 g.2.2.1 g.2.2.2.1 g.2.2.2.2.1=some am∧I g.2.1 R g.2.2.2.2.2.1∧ORep yz R g.2.2.2.2.2.2.1 u g.2.2.2.1∧capOf u=g.2.2.2.1.length∧ORep kSwalks_arrival R g.2.2.2.2.2.2.2.2 g.2.2.2.2.2.2.2.1 g.2.2.2.2.1∧True) (fun g=>g.1) (N,ao.2,0,ay,(cut a 1 (↑a.length:Int)),af,U,aA,V) ⟨[],(pk 1 rfl (pk 1 rfl (pk 0 rfl (List.Perm.refl _))))⟩ ⟨b,ag,(bm.mono k),az,(bp.mono k),trivial⟩ ?_))))
 clear b;rintro⟨Z,aa,d,ab,G,H,aD,ap,aE⟩ bF b7 ah ⟨b,K,r,L,aq,_⟩;rcases Z with _|Z;exact j4 b;replace b:iy N σ p0_ a (Z+1) aa d ab G=some am:=b;rw [iy] at b;refine zn (zq (jc rfl rfl) (z8 (q8 (zw rfl b (fun b=>?_) (fun b=>?_)))));refine qa ?_
 obtain⟨M,f,b⟩:=zm b
 refine j6 (γ:=(σ×List Bool×List Sa)×(List Frag)×Frag×Value×Frag) (rs [5,6,7,9,40,67]) (fun g=>[(5,g.2.2.2.1)]) (fun g=>[g.2.2.1,g.2.2.2.2,box F [(vi ((ix a 0).fC)),(vi ((ix a 0).fI)),(vi ((ix a 0).fH))] 135]++(g.2.1++A)) (fun g R=>M=g.1∧I g.1.1 R g.2.1∧ORep yz R g.2.2.1 u g.1.2.1∧capOf u=g.1.2.1.length∧ORep kSwalks_arrival R g.2.2.2.2 g.2.2.2.1 g.1.2.2∧True) ?_ ?_
 refine zy (zn (zh (vi d) ?_));obtain⟨ai,f⟩:=ze f;refine kw (i:=d.toNat) rfl z7u rfl (ja (aC.mono ah)) (zl rfl ai.1) (qb ai) fun bG aF=>?_;refine qh rfl za1 rfl aF fun bH aG=>?_;obtain rfl:=df.1 aG;refine kv rfl za8 fun q=>?_
 refine zf (vi d) (jd (i:=0) (vs:=[(vi ((ix (ix p0_.rows ((ix a 0).fC)) d).to)),(vi ((ix (ix p0_.rows ((ix a 0).fC)) d).out))]) z6s rfl rfl rfl rfl rfl rfl (zu rfl (zu rfl jh)) ?_)
 refine qw (ji (v:=(.pointer (some ⟨q,0,none⟩))) rfl (qd l5 rfl) (ji (v:=(vi ((ix (ix p0_.rows ((ix a 0).fC)) d).to))) rfl (qi (i:=0) ag3 rfl rfl rfl) (ji rfl (vk rfl rfl) (ji (v:=(.bool (decide (((ix (ix p0_.rows ((ix a 0).fC)) d).to)≠(-1))))) rfl (zb rfl) (j5 rfl rfl rfl rfl (fun t=>qx (v:=u) (zb rfl)) fun bI aH=>?_)))))
 refine j5 rfl rfl rfl rfl (fun t=>qx (v:=(.pointer (some ⟨q,0,none⟩))) (qd l5 rfl)) fun bJ aI=>?_;refine j5 rfl rfl rfl rfl (fun t=>qx (v:=(vi ((ix (ix p0_.rows ((ix a 0).fC)) d).to))) (qi (i:=0) ag3 (aI.1 (zo rfl t)) rfl rfl)) fun bK aJ=>?_;obtain⟨P,f⟩:=ze f
 refine j5 rfl rfl rfl rfl (fun t=>zaf (i:=((ix (ix p0_.rows ((ix a 0).fC)) d).to).toNat) zdw (aH.1 (zo rfl t)) r (zl (aJ.1 (zo rfl t)) (P (zo rfl t)).1) (qb (P (zo rfl t)))) fun bL aK=>?_
 refine j5 rfl rfl rfl rfl (fun t=>qx (zh6 (zh3 (i:=((ix (ix p0_.rows ((ix a 0).fC)) d).to).toNat) (j:=1) ty4 r rfl rfl (aK.1 (zo rfl t)) (qb (P (zo rfl t)))))) fun bM aL=>?_;refine j5 rfl rfl rfl rfl (fun t=>qx (ow (aL.1 (zo rfl t)))) fun bN aM=>?_
 refine ji rfl (uk rfl (fun hb=>(aM.1 (zo rfl hb))) rfl) (z8 (zw rfl f (fun f=>?_) (fun f=>?_)));refine zn (zh u (zq (qd l5 rfl) (zq (qi (i:=0) ag3 rfl rfl rfl) ?_)));obtain⟨Q,f⟩:=ze f
 refine lm (i:=((ix (ix p0_.rows ((ix a 0).fC)) d).to).toNat) rfl zdw rfl r (zl rfl Q.1) (qb Q) fun bO aN=>?_;refine z3n (i:=((ix (ix p0_.rows ((ix a 0).fC)) d).to).toNat) (j:=1) ty4 r rfl rfl aN (qb Q) rfl (ll.2 rfl) fun aO aP=>?_
 refine z8 (zz (zh ap (zq (qd l5 rfl) (zq (qi (i:=0) ag3 rfl rfl rfl) (zq (qd zp0 rfl) (zq (qi (i:=3) ag3 rfl rfl rfl) (zh (vi d) (zq (yt (ps:=[(0,(vi ((ix (ix p0_.rows ((ix a 0).fC)) d).to))),(1,(vi ((ix a 0).fC))),(2,(vi d))]) (v:=(.agg #[(vi ((ix (ix p0_.rows ((ix a 0).fC)) d).to)),(vi ((ix a 0).fC)),(vi d)])) rfl (fun w=>by kernel_rfl)) ?_))))))))
 let G1:=([(⟨(ix (ix p0_.rows ((ix a 0).fC)) d).to,(ix a 0).fC,d⟩:Sa)]:List Sa)
 refine rf (T:=kSwalks_arrival) (X:=G1) (ps:=[(0,(.agg #[(vi ((ix (ix p0_.rows ((ix a 0).fC)) d).to)),(vi ((ix a 0).fC)),(vi d)]))]) (css:=[[(vi ((ix (ix p0_.rows ((ix a 0).fC)) d).to)),(vi ((ix a 0).fC)),(vi d)]]) rfl underlying159 zzh rfl rfl (uh ⟨⟨_,_,rfl,rfl,⟨_,_,rfl,rfl,rfl⟩⟩,trivial⟩) rfl rfl (by decide) fun aQ bP ac aR=>?_
 refine wu (i:=0) rfl aR fun aS h aT=>?_;have aU:VRep (tSl true kSwalks_arrival) aS aQ G1:=(z1b aT ac);obtain⟨aj,f⟩:=ze f
 refine bu (i:=2) (X:=G) (Y:=G1) rfl underlying159 zzh rfl rfl rfl (aq.mono h) (ja (Sub.v (B:=(tSl false kSwalks_arrival)) (ku Sub.refl (fun _=>rfl)) aU)) aj.1 aj.2 fun ak aV aW=>?_;refine zf ak (z8 ?_)
 exact⟨dkt,h,jq,((aa,(up ab ((ix (ix p0_.rows ((ix a 0).fC)) d).to) true),(G++G1)),H,aO,ak,aV),⟨rfl,trivial⟩,⟨[box q [(vi ((ix (ix p0_.rows ((ix a 0).fC)) d).to)),(vi ((ix (ix p0_.rows ((ix a 0).fC)) d).out))] 62],(List.Perm.refl _)⟩,(Option.some.inj f).symm,(bc _ _ _ _ h K),(aP.mono h),(L.trans List.length_set.symm),aW,trivial⟩
 refine qa ?_;exact⟨dkt,(RH.le.refl _),jq,((aa,ab,G),H,aD,ap,aE),⟨rfl,trivial⟩,⟨[box q [(vi ((ix (ix p0_.rows ((ix a 0).fC)) d).to)),(vi ((ix (ix p0_.rows ((ix a 0).fC)) d).out))] 62],(List.Perm.refl _)⟩,(Option.some.inj f).symm,K,r,L,aq,trivial⟩
 rintro⟨M,aX,aY,aZ,a0⟩ bQ b9 a1 ⟨rfl,a2,a3,ar,a4,_⟩;refine zz ?_;obtain⟨a5,b⟩:=ze b;refine zq (jf rfl rfl a5) (zh (vi (d+1)) (z8 ?_));exact⟨dkt,a1,jq,(Z,M.1,d+1,M.2.1,M.2.2,aX,aY,aZ,a0),Nat.lt_succ_self _,⟨rfl,rfl,trivial⟩,prm,b,a2,a3,ar,a4,trivial⟩
 refine jm ?_;exact⟨dkt,(k.trans ah),jq,((aa,ab,G),H,aD,ap,aE),⟨rfl,trivial⟩,⟨[box F [(vi ((ix a 0).fC)),(vi ((ix a 0).fI)),(vi ((ix a 0).fH))] 135],(pk 2 rfl (pk 0 rfl (pk 0 rfl (List.Perm.refl _))))⟩,(Option.some.inj b).symm,K,r,L,aq,trivial⟩;refine jm ?_;show zft _ _ _ _ _ .ret _ [] _ _
 replace e:=z1z b e;obtain rfl:=Option.some.inj e;refine z1u (D:=[]) (J:=[U,V]) (O':=ad) (rs:=[]) (vs:=[]) p (List.Perm.refl _) rfl trivial ?_;exact ae;rintro⟨au,a6,bw,bx,bz⟩ bR ca a7 ⟨rfl,a8,bA,a9,bB,_⟩;replace e:=z4v e
 exact⟨dkt,a7,jq,(S,au.1,au.2.1,au.2.2,a6,bw,bx,bz),Nat.lt_succ_self _,⟨rfl,trivial⟩,prm,e,a8,bA,a9,bB,trivial⟩
end GV
end Go.Proofs.YtkcccdcloealfaaGreat
