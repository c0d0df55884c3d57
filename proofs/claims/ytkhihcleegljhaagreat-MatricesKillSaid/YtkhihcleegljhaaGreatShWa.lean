import Derived.Test.YtkhihcleegljhaaGreatShPlain
import Derived.Test.YtkhihcleegljhaaGreatRows
set_option linter.unusedVariables false
set_option linter.unusedSimpArgs false
namespace Go.Proofs.YtkhihcleegljhaaGreat
namespace GV
open _root_.Go.Proofs.Tryz
open Go.IntWalk
set_option maxRecDepth 100000
set_option maxHeartbeats 20000000
theorem zel: ∀ w,∃ z,(zeroValue 36).run prog w= .ok z w∧z.cells=([.int .i64 0,.int .i64 0,.slice none 0 0]:List Value).toArray:=fun w=>⟨(.agg #[(vi 0),(vi 0),vs0]),by kernel_rfl,rfl⟩
theorem z5r: ∀ w,(sizeOf 36).run prog w= .ok 3 w:=fun w=>by kernel_rfl
theorem z4p:FieldOk prog 36 0 0:=by
 obtain⟨i,hi,a⟩: ∃ i,prog.info? 3=some i∧i.size=1:=u6 (by kernel_rfl);exact xn underlying36 rfl rfl hi (by rw [a];rfl)
theorem ag3: ∀ w,(isAgg 3).run prog w= .ok false w:=fun w=>by kernel_rfl
theorem ty4:TyOk prog 4 z2i:=by
 obtain⟨i,hi,a⟩: ∃ i,prog.info? 4=some i∧i.size=1:=u6 (by kernel_rfl);exact z0l underlying4 hi rfl a
theorem z90:ZeroOk prog 76 kEdge (⟨(0:Int),(0:Int)⟩:Edge) 16:=by
 obtain⟨i,zv,hi,a,c,d,f⟩:=z3r (P:=prog) (e:=76) (zv:=(.agg #[(vi 0),(vi 0)])) (k:=2) (b:=16) (by kernel_rfl);exact⟨i,zv,hi,a,c,d,fun R=>by subst f;exact⟨_,_,rfl,rfl,rfl⟩⟩
theorem z9q:FieldOk prog 36 1 1:=by
 obtain⟨i,hi,a⟩: ∃ i,prog.info? 3=some i∧i.size=1:=u6 (by kernel_rfl);exact xn underlying36 rfl rfl hi (by rw [a];rfl)
theorem mixed:prog.follows .mixedOrders=true:=by kernel_rfl
theorem o8:FieldOk prog 36 2 2:=by
 obtain⟨i,hi,a⟩: ∃ i,prog.info? 34=some i∧i.size=1:=u6 (by kernel_rfl);exact xn underlying36 rfl rfl hi (by rw [a];rfl)
theorem zm7{a:Bool}:ZeroOk prog 73 (tSl a kEdge) ([]:List Edge) 24:=by
 obtain⟨i,zv,hi,c,d,f,g⟩:=z3r (P:=prog) (e:=73) (zv:=vs0) (k:=1) (b:=24) (by kernel_rfl);exact⟨i,zv,hi,c,d,f,fun R=>by subst g;exact(jr rfl z2w)⟩
theorem zb5: ∀ w,(isAgg 36).run prog w= .ok true w:=fun w=>by kernel_rfl
theorem zo3:ZeroOk prog 3 (zq .i64) (0:Int) 8:=by
 obtain⟨i,zv,hi,a,c,d,f⟩:=z3r (P:=prog) (e:=3) (zv:=(vi 0)) (k:=1) (b:=8) (by kernel_rfl);exact⟨i,zv,hi,a,c,d,fun R=>by subst f;exact rfl⟩
theorem zdq{a:Bool}:ZeroOk prog 40 (tSl a (zq .i64)) ([]:List Int) 24:=by
 obtain⟨i,zv,hi,c,d,f,g⟩:=z3r (P:=prog) (e:=40) (zv:=vs0) (k:=1) (b:=24) (by kernel_rfl);exact⟨i,zv,hi,c,d,f,fun R=>by subst g;exact(jr rfl z2w)⟩
theorem z6m{a:Bool}:TyOk prog 40 (tSl a (zq .i64)):=by
 obtain⟨i,hi,b⟩: ∃ i,prog.info? 40=some i∧i.size=1:=u6 (by kernel_rfl);exact z0l underlying40 hi rfl b
theorem z6x{a:Bool}:SlOk prog 38 40 (tSl a (zq .i64)):=⟨underlying38,z6m⟩
theorem ty3:TyOk prog 3 (zq .i64):=by
 obtain⟨i,hi,a⟩: ∃ i,prog.info? 3=some i∧i.size=1:=u6 (by kernel_rfl);exact z0l underlying3 hi rfl a
theorem z1d:SlOk prog 40 3 (zq .i64):=⟨underlying40,ty3⟩
theorem z2z{N:Nat}{R:RH}{a:(List Int)}{f:Value}(l:VRep (tSl false (zq .i64)) R f a){b:(List Int)}{j:Value}(m:VRep (tSl false (zq .i64)) R j b){r:Int}(d:ak N a b=some r):CallP prog 65 #[f,j] R (fun v R'=>v=(vi r)):=by
 refine qi (args:=[f,j]) func65 rfl rfl fun A=>?_;rw [ak] at d;refine zm (zk (vi 0) (z8 (zz (zm (zg f (zy (qx rfl underlying40 rfl (jg l)) (zg j (zy (qx rfl underlying40 rfl (jg m)) (zy (vv rfl rfl) (z8 (zx rfl d (fun d=>?_) (fun d=>?_))))))))))))
 refine zz (zm (zg f (zy (qx rfl underlying40 rfl (jg l)) (zg j (zy (qx rfl underlying40 rfl (jg m)) (zy (j5 rfl rfl) (z8 (zx rfl d (fun d=>?_) (fun d=>?_)))))))));refine zm (zk (vi (-1)) (z8 (qh ?_)));obtain rfl:=Option.some.inj d
 refine qd (D:=[]) (J:=[]) (rs:=[.tmp 4]) (vs:=[(vi (-1))]) (RH.le.refl _) rfl rfl ⟨rfl,trivial⟩ ?_;exact⟨rfl,rfl⟩;refine qb (zm (zk (vi 1) (z8 (qh ?_))));obtain rfl:=Option.some.inj d;refine qd (D:=[]) (J:=[]) (rs:=[.tmp 4]) (vs:=[(vi 1)]) (RH.le.refl _) rfl rfl ⟨rfl,trivial⟩ ?_;exact⟨rfl,rfl⟩;refine qb ?_
 obtain⟨u,c,d⟩:=zt d;refine qj (γ:=Unit) (rs [4,6,16,40]) (fun g=>[]) (fun g=>[]++A) (fun g R=>u=Ex.go g∧True) ?_ ?_
 refine zm (zk (vi 0) (z8 (q9 (j3 (γ:=Nat×Int) (rs [4,6,16,40]) (fun g=>[(5,(vi g.2))]) (fun g=>[]++A) (fun g R=>yj N a b g.1 g.2=some u∧True) (fun g=>g.1) (N,0) prm ⟨c,trivial⟩ ?_))));clear c;rintro⟨t,k⟩ E O e ⟨c,_⟩;rcases t with _|t;exact ql c
 replace c:yj N a b (t+1) k=some u:=c;rw [yj] at c;refine zz (zm (zg (vi k) (zg f (zy (qx rfl underlying40 rfl (jg (l.mono e))) (zy (j5 rfl rfl) (z8 (zx rfl c (fun c=>?_) (fun c=>?_))))))))
 refine qb (zz (q9 (zz (zz (z6h 9 mixed (by kernel_rfl) (by kernel_rfl) ?_)))));refine ng (v:=f) (za rfl) ?_;refine ng (v:=(vi k)) (za rfl) ?_;obtain⟨o,c⟩:=ze c;refine zah (z0y (i:=k.toNat) z1d rfl (jg (l.mono e)) (zi rfl o.1) (zw o)) fun F w=>?_
 refine ng (tq (u7 ty3 rfl w)) ?_;refine ng (v:=j) (za rfl) ?_;refine ng (v:=(vi k)) (za rfl) ?_;obtain⟨p,c⟩:=ze c;refine zah (z0y (i:=k.toNat) z1d rfl (jg (m.mono e)) (zi rfl p.1) (zw p)) fun G x=>?_;refine ng (tq (u7 ty3 rfl x)) ?_;refine ng (j5 rfl rfl) ?_;intro H h
 refine z8 (zx rfl c (fun c=>?_) (fun c=>?_));refine zm (zk (vi (-1)) (z8 (qh ?_)));replace d:=z16 c d;obtain rfl:=Option.some.inj d;refine qd (D:=[]) (J:=[]) (rs:=[.tmp 4]) (vs:=[(vi (-1))]) (e.trans h) rfl rfl ⟨rfl,trivial⟩ ?_;exact⟨rfl,rfl⟩
 refine qb (zz (z6h 9 mixed (by kernel_rfl) (by kernel_rfl) ?_));refine ng (v:=f) (za rfl) ?_;refine ng (v:=(vi k)) (za rfl) ?_;obtain⟨q,c⟩:=ze c;refine zah (z0y (i:=k.toNat) z1d rfl (jg (l.mono (e.trans h))) (zi rfl q.1) (zw q)) fun I y=>?_;refine ng (tq (u7 ty3 rfl y)) ?_
 refine ng (v:=j) (za rfl) ?_;refine ng (v:=(vi k)) (za rfl) ?_;obtain⟨s,c⟩:=ze c;refine zah (z0y (i:=k.toNat) z1d rfl (jg (m.mono (e.trans h))) (zi rfl s.1) (zw s)) fun K z=>?_;refine ng (tq (u7 ty3 rfl z)) ?_;refine ng (l6 rfl rfl) ?_;intro L n
 refine z8 (zx rfl c (fun c=>?_) (fun c=>?_));refine zm (zk (vi 1) (z8 (qh ?_)));replace d:=z16 c d;obtain rfl:=Option.some.inj d;refine qd (D:=[]) (J:=[]) (rs:=[.tmp 4]) (vs:=[(vi 1)]) ((e.trans h).trans n) rfl rfl ⟨rfl,trivial⟩ ?_;exact⟨rfl,rfl⟩;refine qb (zu (zg (vi k) ?_))
 obtain⟨B,c⟩:=ze c;refine zy (qo rfl rfl B) (zk (vi (k+1)) (z8 ?_));exact⟨dkt,(h.trans n),je,(t,k+1),Nat.lt_succ_self _,⟨rfl,trivial⟩,prm,c,trivial⟩;refine jd ?_;exact⟨dkt,e,je,(),trivial,prm,(Option.some.inj c).symm,trivial⟩;rintro P M Q C ⟨rfl,_⟩;replace d:=z2m d
 refine zm (zk (vi 0) (z8 (qh ?_)));obtain rfl:=Option.some.inj d;refine qd (D:=[]) (J:=[]) (rs:=[.tmp 4]) (vs:=[(vi 0)]) C rfl rfl ⟨rfl,trivial⟩ ?_;exact⟨rfl,rfl⟩
theorem zr4:Enters prog 65:=enters_of func65 rfl (by kernel_rfl)
theorem z8z{a b:Bool}:TyOk prog 36 (wh a b):=by
 obtain⟨i,hi,c⟩: ∃ i,prog.info? 36=some i∧i.size=3:=u6 (by kernel_rfl);exact z0l underlying36 hi rfl c
theorem z7s{a b:Bool}:TyOk prog 34 (tSl a (tSl b kEdge)):=by
 obtain⟨i,hi,c⟩: ∃ i,prog.info? 34=some i∧i.size=1:=u6 (by kernel_rfl);exact z0l underlying34 hi rfl c
theorem zd0{a:Bool}:TyOk prog 73 (tSl a kEdge):=by
 obtain⟨i,hi,b⟩: ∃ i,prog.info? 73=some i∧i.size=1:=u6 (by kernel_rfl);exact z0l underlying73 hi rfl b
theorem zdt{a:Bool}:SlOk prog 34 73 (tSl a kEdge):=⟨underlying34,zd0⟩
theorem zgw:TyOk prog 76 kEdge:=by
 obtain⟨i,hi,a⟩: ∃ i,prog.info? 76=some i∧i.size=2:=u6 (by kernel_rfl);exact z0l underlying76 hi rfl a
theorem zgp:SlOk prog 73 76 kEdge:=⟨underlying73,zgw⟩
theorem z7x:FieldOk prog 76 0 0:=by
 obtain⟨i,hi,a⟩: ∃ i,prog.info? 3=some i∧i.size=1:=u6 (by kernel_rfl);exact xn underlying76 rfl rfl hi (by rw [a];rfl)
theorem zkf: ∀ w,∃ z,(zeroValue 76).run prog w= .ok z w∧z.cells=([.int .i64 0,.int .i64 0]:List Value).toArray:=fun w=>⟨(.agg #[(vi 0),(vi 0)]),by kernel_rfl,rfl⟩
theorem zck: ∀ w,(sizeOf 76).run prog w= .ok 2 w:=fun w=>by kernel_rfl
theorem zaf:FieldOk prog 76 1 1:=by
 obtain⟨i,hi,a⟩: ∃ i,prog.info? 3=some i∧i.size=1:=u6 (by kernel_rfl);exact xn underlying76 rfl rfl hi (by rw [a];rfl)
theorem sz3: ∀ w,(sizeOf 3).run prog w= .ok 1 w:=fun w=>by kernel_rfl
theorem zp4: ∀ w,(isAgg 76).run prog w= .ok true w:=fun w=>by kernel_rfl
theorem zo0{a c:Bool}:ZeroOk prog 36 (wh a c) (⟨(0:Int),(0:Int),([]:List (List Edge))⟩:Mach) 40:=by
 obtain⟨i,zv,hi,d,f,g,h⟩:=z3r (P:=prog) (e:=36) (zv:=(.agg #[(vi 0),(vi 0),vs0])) (k:=3) (b:=40) (by kernel_rfl);exact⟨i,zv,hi,d,f,g,fun R=>by subst h;exact⟨_,_,rfl,rfl,⟨_,_,rfl,rfl,(jr rfl z2w)⟩⟩⟩
theorem zjg: ∀ w,∃ z,(zeroValue 46).run prog w= .ok z w∧z.cells=([.slice none 0 0]:List Value).toArray:=fun w=>⟨(.agg #[vs0]),by kernel_rfl,rfl⟩
theorem z8b{N:Nat}{R:RH}{s:(List Edge)}{c:Value}(k:VRep (tSl false kEdge) R c s){f:Edge→Option Bool}{e:Value}(n:FOk1 prog R e kEdge z2i f){r:Int}(b:fq N s f=some r):CallP prog 85 #[c,e] R (fun v R'=>v=(vi r)):=by
 refine qi (args:=[c,e]) func85 rfl rfl fun A=>?_;rw [fq] at b;refine zm (zk (vi 0) (z8 ?_));obtain⟨o,a,b⟩:=zt b;refine qj (γ:=Unit) (rs [4,19]) (fun g=>[]) (fun g=>[]++A) (fun g R=>o=Ex.go g∧True) ?_ ?_
 refine zm (zg c (zy (qx rfl underlying73 rfl (jg k)) (zg (vi 0) (z8 (q9 (j3 (γ:=Nat×Int) (rs [4,6,8,19]) (fun g=>[(8,(vi g.2))]) (fun g=>[]++A) (fun g R=>uz N s f g.1 g.2=some o∧True) (fun g=>g.1) (N,0) prm ⟨a,trivial⟩ ?_))))));clear a;rintro⟨m,d⟩ y H h ⟨a,_⟩
 rcases m with _|m;exact ql a;replace a:uz N s f (m+1) d=some o:=a;rw [uz] at a;refine zm (zy (j5 rfl rfl) (z8 (zz (zx rfl a (fun a=>?_) (fun a=>?_)))))
 refine qb (zz (q9 (zm (zg (vi d) (zk (vi d) (qy (zg e (zg c (zg (vi d) ?_)))))))));obtain⟨l,a⟩:=ze a;refine uf (i:=d.toNat) rfl zgp rfl (jg (k.mono h)) (zi rfl l.1) (zw l) fun z p=>?_;refine qp rfl zgw rfl p fun B q=>?_;obtain rfl:=z1s.1 q
 obtain⟨C,t,a⟩:=zt a;refine za1 rfl rfl rfl ((n.mono h) _ (RH.le.refl _) (ix s d) _ _ (z1s.2 rfl) t) fun E F j u=>?_;obtain rfl:=lh.1 u;refine z8 (zx rfl a (fun a=>?_) (fun a=>?_));refine zm (zg (vi d) (zk (vi d) (z8 (qh ?_))));replace b:=z16 a b;obtain rfl:=Option.some.inj b
 refine qd (D:=[]) (J:=[]) (rs:=[.tmp 4]) (vs:=[(vi d)]) (h.trans j) rfl rfl ⟨rfl,trivial⟩ ?_;exact⟨rfl,rfl⟩;refine qb (zu ?_);obtain⟨w,a⟩:=ze a;refine zy (qo rfl rfl w) (zg (vi (d+1)) (z8 ?_));exact⟨dkt,j,je,(m,d+1),Nat.lt_succ_self _,⟨rfl,trivial⟩,prm,a,trivial⟩;refine jd ?_
 exact⟨dkt,h,je,(),trivial,prm,(Option.some.inj a).symm,trivial⟩;rintro I G K x ⟨rfl,_⟩;replace b:=z2m b;refine zm (zk (vi (-1)) (z8 (qh ?_)));obtain rfl:=Option.some.inj b;refine qd (D:=[]) (J:=[]) (rs:=[.tmp 4]) (vs:=[(vi (-1))]) x rfl rfl ⟨rfl,trivial⟩ ?_;exact⟨rfl,rfl⟩
theorem zvd:Enters prog 85:=enters_of func85 rfl (by kernel_rfl)
theorem z6r{N:Nat}{R:RH}{s:(List Edge)}{a:Value}(d:VRep (tSl false kEdge) R a s){f:Edge→Option Bool}{b:Value}(e:FOk1 prog R b kEdge z2i f){r:Bool}(c:af N s f=some r):CallP prog 67 #[a,b] R (fun v R'=>v=(.bool r)):=by
 refine qi (args:=[a,b]) func67 rfl rfl fun A=>?_;rw [af] at c;refine zm (zk (.bool false) (qy (zg a (zg b ?_))));obtain⟨h,i,c⟩:=zt c;refine jc rfl zvd rfl (z8b d e i) fun k l g j=>?_;obtain rfl:=j
 refine zy (aa rfl rfl) (zk (.bool (decide (0≤h))) (z8 (qh ?_)));obtain rfl:=Option.some.inj c;refine qd (D:=[]) (J:=[]) (rs:=[.tmp 4]) (vs:=[(.bool (decide (0≤h)))]) g rfl rfl ⟨rfl,trivial⟩ ?_;exact⟨rfl,rfl⟩
theorem zvw:Enters prog 67:=enters_of func67 rfl (by kernel_rfl)
theorem zaq{N:Nat}{R:RH}  {r:Edge} (a:z4t N  =some r):CallP prog 86 #[] R (fun v R'=>v=(z3p r)):=by
 refine qi (args:=[]) func86 rfl rfl fun A=>?_;rw [z4t] at a;refine zm (yx rfl zkf fun b=>?_)
 refine qy (zy (wu (ps:=[(0,(vi (-1))),(1,(vi (-1)))]) (v:=(.agg #[(vi (-1)),(vi (-1))])) rfl (fun w=>by kernel_rfl)) (kw (i:=0) (vs:=[(vi (-1)),(vi (-1))]) zck rfl rfl rfl rfl rfl rfl (qg rfl (qg rfl ug)) ?_));refine z8 (qh ?_);obtain rfl:=Option.some.inj a
 refine qd (D:=[]) (J:=[box b [(vi (-1)),(vi (-1))] 76]) (rs:=[.cell 0 76]) (vs:=[(.agg #[(vi (-1)),(vi (-1))])]) (RH.le.refl _) rfl rfl ⟨⟨_,rfl,fun w c=>z0p (i:=0) c rfl rfl zp4 zck rfl rfl⟩,trivial⟩ ?_;exact⟨rfl,rfl⟩
theorem zt3:Enters prog 86:=enters_of func86 rfl (by kernel_rfl)
theorem zvx:zoz prog 76:=zik (f0:=((prog.fieldsOf 76).toList.getD 0 default)) (f1:=((prog.fieldsOf 76).toList.getD 1 default)) (by kernel_rfl) (by kernel_rfl) (by kernel_rfl) (by kernel_rfl) (by kernel_rfl) (by kernel_rfl) (by kernel_rfl) (by kernel_rfl) (by kernel_rfl) (by kernel_rfl)
theorem zf5{N:Nat}{R:RH}{m:Mach}{p:Value}(w:VRep (wh false false) R p m){x:Edge}{r:Bool}(n:z9v N m x=some r):CallP prog 69 #[p,(z3p x)] R (fun v R'=>v=(.bool r)):=by
 refine qi (args:=[p,(z3p x)]) func69 rfl rfl fun A=>?_;rw [z9v] at n;refine zm (um (T:=(wh false false)) rfl rfl rfl w fun v1 R3 y h5 K=>?_);refine z9d (T:=kEdge) rfl rfl (z1s.2 rfl) fun v6 R8 q t=>?_;refine zk (.bool false) (z8 (zz ?_));obtain⟨b,z,n⟩:=zt n
 let B:=((decide (x.to=b.to∧x.out=b.out))||((((decide (0≤x.to))&&(decide (x.to<(↑m.rows.length:Int))))&&(decide (0≤x.out)))&&(decide (x.out<m.outputs))));let L:=((((decide (0≤x.to))&&(decide (x.to<(↑m.rows.length:Int))))&&(decide (0≤x.out)))&&(decide (x.out<m.outputs)))
 let o:=(((decide (0≤x.to))&&(decide (x.to<(↑m.rows.length:Int))))&&(decide (0≤x.out)));let k:=((decide (0≤x.to))&&(decide (x.to<(↑m.rows.length:Int))));let e:=(true&&((decide (x.to=b.to∧x.out=b.out))==false))
 refine ym 29 [] [phX (z3p x),phX (z3p b),phX (.bool (decide (x.to=b.to∧x.out=b.out))),phX (.bool (decide (x.to=b.to∧x.out=b.out))),phG e (phP (zq .i64) x.to),phG e (phX (vi x.to)),phG e (phX (.bool (decide (0≤x.to)))),phG e (phX (.bool (decide (0≤x.to)))),phG (e&&((decide (0≤x.to))==true)) (phP (zq .i64) x.to),phG (e&&((decide (0≤x.to))==true)) (phX (vi x.to)),phG (e&&((decide (0≤x.to))==true)) (phP (tSl false (tSl false kEdge)) m.rows),phG (e&&((decide (0≤x.to))==true)) (phR (tSl false (tSl false kEdge)) m.rows),phG (e&&((decide (0≤x.to))==true)) (phX (vi (↑m.rows.length:Int))),phG (e&&((decide (0≤x.to))==true)) (phX (.bool (decide (x.to<(↑m.rows.length:Int))))),phG e (phX (.bool k)),phG e (phX (.bool k)),phG (e&&(k==true)) (phP (zq .i64) x.out),phG (e&&(k==true)) (phX (vi x.out)),phG (e&&(k==true)) (phX (.bool (decide (0≤x.out)))),phG e (phX (.bool o)),phG e (phX (.bool o)),phG (e&&(o==true)) (phP (zq .i64) x.out),phG (e&&(o==true)) (phX (vi x.out)),phG (e&&(o==true)) (phP (zq .i64) m.outputs),phG (e&&(o==true)) (phX (vi m.outputs)),phG (e&&(o==true)) (phX (.bool (decide (x.out<m.outputs)))),phG e (phX (.bool L)),phX (.bool B),phX (.bool B)] mixed (by kernel_rfl) (wm ⟨zf,zf,zf,zf,(qf yf),(qf zf),(qf zf),(qf zf),(qf yf),(qf zf),(qf yf),(qf nz),(qf zf),(qf zf),(qf zf),(qf zf),(qf yf),(qf zf),(qf zf),(qf zf),(qf zf),(qf yf),(qf zf),(qf yf),(qf zf),(qf zf),(qf zf),zf,zf,trivial⟩) ⟨?_,?_,?_,?_,?_,?_,?_,?_,?_,?_,?_,?_,?_,?_,?_,?_,?_,?_,?_,?_,?_,?_,?_,?_,?_,?_,?_,?_,?_,trivial⟩ fun ak u=>?_
 intro l al a g hd;exact zb rfl rfl rfl (j4 (jy zgw (g 3 rfl) (t.mono a)) (fun _ _ h=>z1s.1 h));intro l an a g hd;exact zb rfl rfl rfl (uq (vs:=[]) zt3 rfl (zaq  z) (fun _ _ h=>h));rintro l ao a g ⟨c,f,_⟩;exact zb rfl rfl rfl (zh (zok zvx (c rfl) (f rfl)));rintro l ap a g ⟨c,f,_⟩
 exact zb rfl rfl rfl (zh (za (c rfl)));rintro l aq a g ⟨c,_⟩;exact zn (Gj:=true) (Bj:=decide (x.to=b.to∧x.out=b.out)) rfl rfl rfl (ja (c rfl)) rfl (fun i d=>yt z7x zfp (g 3 rfl) (t.mono a));rintro l ar a g ⟨c,f,_⟩
 exact zn (Gj:=true) (Bj:=decide (x.to=b.to∧x.out=b.out)) rfl rfl rfl (ja (f rfl)) rfl (fun i d=>j4 (jy ty3 rfl ((c rfl).1 (zo rfl d))) (fun _ _ h=>q8.1 h));rintro l au a g ⟨c,f,_⟩
 exact zn (Gj:=true) (Bj:=decide (x.to=b.to∧x.out=b.out)) rfl rfl rfl (ja (f rfl)) rfl (fun i d=>zh (aa (show l 10=(vi x.to) from(c rfl).1 (zo rfl d)) rfl));rintro l av a g ⟨c,f,j,_⟩
 exact zn (Gj:=true) (Bj:=decide (x.to=b.to∧x.out=b.out)) rfl rfl rfl (ja (f rfl)) rfl (fun i d=>zh (za (show l 11=(.bool (decide (0≤x.to))) from(c rfl).1 (zo rfl d))));rintro l aw a g ⟨c,_⟩;exact zn (Gj:=e) (Bj:=decide (0≤x.to)) rfl rfl rfl (c rfl) rfl (fun i d=>yt z7x zfp (g 3 rfl) (t.mono a))
 rintro l ax a g ⟨c,f,_⟩;exact zn (Gj:=e) (Bj:=decide (0≤x.to)) rfl rfl rfl (f rfl) rfl (fun i d=>j4 (jy ty3 rfl ((c rfl).1 (zo i d))) (fun _ _ h=>q8.1 h));rintro l M a g ⟨c,_⟩;exact zn (Gj:=e) (Bj:=decide (0≤x.to)) rfl rfl rfl (c rfl) rfl (fun i d=>yt o8 ah (g 2 rfl) ((K.mono q).mono a))
 rintro l O a g ⟨c,f,_⟩;exact zn (Gj:=e) (Bj:=decide (0≤x.to)) rfl rfl rfl (f rfl) rfl (fun i d=>jy z7s rfl ((c rfl).1 (zo i d)));rintro l P a g ⟨c,f,_⟩;exact zn (Gj:=e) (Bj:=decide (0≤x.to)) rfl rfl rfl (f rfl) rfl (fun i d=>zh (qx rfl underlying34 rfl (jg ((c rfl).1 (zo i d)))))
 rintro l Q a g ⟨c,f,j,_⟩;exact zn (Gj:=e) (Bj:=decide (0≤x.to)) rfl rfl rfl (j rfl) rfl (fun i d=>zh (j5 (show l 14=(vi x.to) from(c rfl).1 (zo i d)) (show l 17=(vi (↑m.rows.length:Int)) from(f rfl).1 (zo i d))));rintro l S a g ⟨c,f,j,_⟩
 exact zn (Gj:=true) (Bj:=decide (x.to=b.to∧x.out=b.out)) rfl rfl rfl (ja (j rfl)) rfl (fun i d=>zh (ut (show l 12=(.bool (decide (0≤x.to))) from(c rfl).1 (zo rfl d)) (fun s=>(show l 18=(.bool (decide (x.to<(↑m.rows.length:Int)))) from(f rfl).1 (zo (zo rfl d) s))) rfl));rintro l U a g ⟨c,f,j,_⟩
 exact zn (Gj:=true) (Bj:=decide (x.to=b.to∧x.out=b.out)) rfl rfl rfl (ja (j rfl)) rfl (fun i d=>zh (za (show l 19=(.bool k) from(c rfl).1 (zo rfl d))));rintro l V a g ⟨c,_⟩
 exact zn (Gj:=e) (Bj:=(decide (0≤x.to))&&(decide (x.to<(↑m.rows.length:Int)))) rfl rfl rfl (c rfl) rfl (fun i d=>yt zaf zg6 (g 3 rfl) (t.mono a));rintro l W a g ⟨c,f,_⟩
 exact zn (Gj:=e) (Bj:=(decide (0≤x.to))&&(decide (x.to<(↑m.rows.length:Int)))) rfl rfl rfl (f rfl) rfl (fun i d=>j4 (jy ty3 rfl ((c rfl).1 (zo i d))) (fun _ _ h=>q8.1 h));rintro l X a g ⟨c,f,_⟩
 exact zn (Gj:=e) (Bj:=(decide (0≤x.to))&&(decide (x.to<(↑m.rows.length:Int)))) rfl rfl rfl (f rfl) rfl (fun i d=>zh (aa (show l 22=(vi x.out) from(c rfl).1 (zo i d)) rfl));rintro l Y a g ⟨c,f,j,_⟩
 exact zn (Gj:=true) (Bj:=decide (x.to=b.to∧x.out=b.out)) rfl rfl rfl (ja (j rfl)) rfl (fun i d=>zh (ut (show l 20=(.bool k) from(c rfl).1 (zo rfl d)) (fun s=>(show l 23=(.bool (decide (0≤x.out))) from(f rfl).1 (zo (zo rfl d) s))) rfl));rintro l Z a g ⟨c,f,j,_⟩
 exact zn (Gj:=true) (Bj:=decide (x.to=b.to∧x.out=b.out)) rfl rfl rfl (ja (j rfl)) rfl (fun i d=>zh (za (show l 24=(.bool o) from(c rfl).1 (zo rfl d))));rintro l ab a g ⟨c,_⟩;exact zn (Gj:=e) (Bj:=k&&(decide (0≤x.out))) rfl rfl rfl (c rfl) rfl (fun i d=>yt zaf zg6 (g 3 rfl) (t.mono a))
 rintro l ac a g ⟨c,f,_⟩;exact zn (Gj:=e) (Bj:=k&&(decide (0≤x.out))) rfl rfl rfl (f rfl) rfl (fun i d=>j4 (jy ty3 rfl ((c rfl).1 (zo i d))) (fun _ _ h=>q8.1 h));rintro l ad a g ⟨c,_⟩
 exact zn (Gj:=e) (Bj:=k&&(decide (0≤x.out))) rfl rfl rfl (c rfl) rfl (fun i d=>yt z9q z5s (g 2 rfl) ((K.mono q).mono a));rintro l ae a g ⟨c,f,_⟩;exact zn (Gj:=e) (Bj:=k&&(decide (0≤x.out))) rfl rfl rfl (f rfl) rfl (fun i d=>j4 (jy ty3 rfl ((c rfl).1 (zo i d))) (fun _ _ h=>q8.1 h))
 rintro l af a g ⟨c,f,j,_⟩;exact zn (Gj:=e) (Bj:=k&&(decide (0≤x.out))) rfl rfl rfl (j rfl) rfl (fun i d=>zh (j5 (show l 27=(vi x.out) from(c rfl).1 (zo i d)) (show l 29=(vi m.outputs) from(f rfl).1 (zo i d))));rintro l ag a g ⟨c,f,j,_⟩
 exact zn (Gj:=true) (Bj:=decide (x.to=b.to∧x.out=b.out)) rfl rfl rfl (ja (j rfl)) rfl (fun i d=>zh (ut (show l 25=(.bool o) from(c rfl).1 (zo rfl d)) (fun s=>(show l 30=(.bool (decide (x.out<m.outputs))) from(f rfl).1 (zo (zo rfl d) s))) rfl));rintro l ai a g ⟨c,f,_⟩
 exact zb rfl rfl rfl (zh (rf (c rfl) rfl (fun s=>(show l 31=(.bool L) from(f rfl).1 (zo rfl s)))));rintro l aj a g ⟨c,f,j,d3,d4,d5,d6,d7,d8,d9,ay,az,aA,aB,aC,aD,aE,aF,aG,aH,aI,aJ,aK,aL,aM,aN,aO,aP,aQ,aR,_⟩;exact zb rfl rfl rfl (zh (p8 (c rfl)))
 intro aS C aT E aU F aV G aW aX aY aZ a0 a1 a2 a3 a4 a5 a6 a7 a8 a9 ba bb bc be bf bg bh bi bj bk bl bm bn bo bp bq br bs bt bu bv bw bx bz bA bB bC bD bE bF bG bH bI H bJ I;obtain rfl:=Eq.symm C;obtain rfl:=Eq.symm E;obtain rfl:=Eq.symm F;obtain rfl:=Eq.symm G;obtain rfl:=Eq.symm H;obtain rfl:=Eq.symm I
 refine z8 (qh ?_);obtain rfl:=Option.some.inj n;refine qd (D:=[]) (J:=[]) (rs:=[.tmp 4]) (vs:=[(.bool B)]) ((y.trans q).trans u) rfl rfl ⟨rfl,trivial⟩ ?_;exact⟨rfl,rfl⟩
theorem zvo:Enters prog 69:=enters_of func69 rfl (by kernel_rfl)
theorem zd6{N:Nat}{R:RH}{x:Edge}{p0_:Mach}{a:Value}(c:PRep (wh false false) R a p0_){r:Bool}(b:z6z N x p0_=some r):CallP prog 68 #[(z3p x),a] R (fun v R'=>v=(.bool r)):=by
 refine qi (args:=[(z3p x),a]) func68 rfl rfl fun A=>?_;rw [z6z] at b;refine zm (z9d (T:=kEdge) rfl rfl (z1s.2 rfl) fun n o d i=>?_);refine zk (.bool false) (qy (qp rfl z8z rfl (c.mono d) fun p j=>?_));refine qp rfl zgw rfl i fun q k=>?_;obtain rfl:=z1s.1 k
 obtain⟨h,f,b⟩:=zt b;refine jc rfl zvo rfl (zf5 j f) fun l m e g=>?_;obtain rfl:=g;refine zy (ru rfl) (zk (.bool (!h)) (z8 (qh ?_)));obtain rfl:=Option.some.inj b;refine qd (D:=[]) (J:=[]) (rs:=[.tmp 3]) (vs:=[(.bool (!h))]) (d.trans e) rfl rfl ⟨rfl,trivial⟩ ?_;exact⟨rfl,rfl⟩
theorem zwc:Enters prog 68:=enters_of func68 rfl (by kernel_rfl)
theorem z6s{N:Nat}{R:RH}{m:Mach}{q:Value}(F:VRep (wh false false) R q m){r:Int}(b:z1c N m=some r):CallP prog 34 #[q] R (fun v R'=>v=(vi r)):=by
 refine qi (args:=[q]) func34 rfl rfl fun A=>?_;rw [z1c] at b;refine zm (um (T:=(wh false false)) rfl rfl rfl F fun E R3 k h5 l=>?_);refine zk (vi 0) (z8 (zz (zm (z92 rfl (uy z4p z3o rfl l) fun v6 h7=>?_))))
 refine jh rfl (tq (u7 ty3 rfl h7)) (jh rfl (l6 rfl rfl) (jh (v:=(.bool (decide (16<m.inputs)))) rfl (za rfl) (qz rfl rfl rfl rfl (fun c=>uy z9q z5s rfl l) fun al G=>?_)));refine qz rfl rfl rfl rfl (fun c=>qm (tq (u7 ty3 rfl (G.1 (zo rfl c))))) fun am H=>?_
 refine qz rfl rfl rfl rfl (fun c=>qm (l6 (H.1 (zo rfl c)) rfl)) fun an I=>?_;refine jh rfl (rf rfl rfl (fun n=>(I.1 (zo rfl n)))) (jh (v:=(.bool ((decide (16<m.inputs))||(decide (16<m.outputs))))) rfl (za rfl) (qz rfl rfl rfl rfl (fun c=>uy o8 ah rfl l) fun ao K=>?_))
 refine qz rfl rfl rfl rfl (fun c=>u7 z7s rfl (K.1 (zo rfl c))) fun ap L=>?_;refine qz rfl rfl rfl rfl (fun c=>qm (qx rfl underlying34 rfl (jg (L.1 (zo rfl c))))) fun aq M=>?_;refine qz rfl rfl rfl rfl (fun c=>qm (l6 (M.1 (zo rfl c)) rfl)) fun ar O=>?_
 refine jh rfl (rf rfl rfl (fun n=>(O.1 (zo rfl n)))) (z8 (zx rfl b (fun b=>?_) (fun b=>?_)));refine zm (zk (vi 3) (z8 (qh ?_)));obtain rfl:=Option.some.inj b;refine qd (D:=[]) (J:=[]) (rs:=[.tmp 2]) (vs:=[(vi 3)]) k rfl rfl ⟨rfl,trivial⟩ ?_;exact⟨rfl,rfl⟩
 refine qb (zz (zm (z92 rfl (uy z4p z3o rfl l) fun au P=>?_)));refine jh rfl (tq (u7 ty3 rfl P)) (jh rfl (j5 rfl rfl) (jh (v:=(.bool (decide (m.inputs<1)))) rfl (za rfl) (qz rfl rfl rfl rfl (fun c=>uy z9q z5s rfl l) fun av Q=>?_)))
 refine qz rfl rfl rfl rfl (fun c=>qm (tq (u7 ty3 rfl (Q.1 (zo rfl c))))) fun aw S=>?_;refine qz rfl rfl rfl rfl (fun c=>qm (j5 (S.1 (zo rfl c)) rfl)) fun ax U=>?_
 refine jh rfl (rf rfl rfl (fun n=>(U.1 (zo rfl n)))) (jh (v:=(.bool ((decide (m.inputs<1))||(decide (m.outputs<1))))) rfl (za rfl) (qz rfl rfl rfl rfl (fun c=>uy o8 ah rfl l) fun ay V=>?_));refine qz rfl rfl rfl rfl (fun c=>u7 z7s rfl (V.1 (zo rfl c))) fun az W=>?_
 refine qz rfl rfl rfl rfl (fun c=>qm (qx rfl underlying34 rfl (jg (W.1 (zo rfl c))))) fun aA X=>?_;refine qz rfl rfl rfl rfl (fun c=>qm (j5 (X.1 (zo rfl c)) rfl)) fun aB Y=>?_;refine jh rfl (rf rfl rfl (fun n=>(Y.1 (zo rfl n)))) (z8 (zx rfl b (fun b=>?_) (fun b=>?_)))
 refine zm (zk (vi 1) (z8 (qh ?_)));obtain rfl:=Option.some.inj b;refine qd (D:=[]) (J:=[]) (rs:=[.tmp 2]) (vs:=[(vi 1)]) k rfl rfl ⟨rfl,trivial⟩ ?_;exact⟨rfl,rfl⟩;refine qb ?_;obtain⟨s,a,b⟩:=zt b;refine qj (γ:=Unit) (rs [2,3,4,5,33,51]) (fun g=>[]) (fun g=>[]++A) (fun g R=>s=Ex.go g∧True) ?_ ?_
 refine zm (kv rfl o8 ah rfl l fun aC Z=>?_);refine qp rfl z7s rfl Z fun aD t=>?_
 refine zy (qx rfl underlying34 rfl (jg t)) (zg (vi 0) (z8 (q9 (j3 (γ:=Nat×Int) (rs [2,3,4,5,36,51]) (fun g=>[(36,(vi g.2))]) (fun g=>[]++A) (fun g R=>ig N m g.1 g.2=some s∧True) (fun g=>g.1) (N,0) prm ⟨a,trivial⟩ ?_))));clear a;rintro⟨o,e⟩ ai aE d ⟨a,_⟩;rcases o with _|o
 exact ql a;replace a:ig N m (o+1) e=some s:=a;rw [ig] at a;refine zm (zy (j5 rfl rfl) (z8 (zz (zx rfl a (fun a=>?_) (fun a=>?_)))));refine qb (zz (q9 (zm ?_)));obtain⟨u,a⟩:=ze a
 refine uf (i:=e.toNat) rfl zdt rfl (jg (t.mono d)) (zi rfl u.1) (zw u) fun aF aa=>?_;refine qp rfl zd0 rfl aa fun p w=>?_;refine zk p (qy (jh (v:=p) rfl (za rfl) (jh rfl (qx rfl underlying73 rfl (jg w)) (z92 rfl (uy z4p z3o rfl (l.mono d)) fun aG ab=>?_))))
 refine jh rfl (tq (u7 ty3 rfl ab)) (jh rfl (vv rfl rfl) (jh (v:=(.bool (decide ((↑(ix m.rows e).length:Int)≠m.inputs)))) rfl (za rfl) (qz rfl rfl rfl rfl (fun c=>qm (v:=p) (za rfl)) fun aH ac=>?_)))
 refine qz rfl rfl rfl rfl (fun c=>qm (v:=(.func (.func 68) #[] #[E])) (z0c (fs:=[]) (cs:=[E]) rfl rfl)) fun aI ad=>?_;obtain⟨ae,af,a⟩:=zt a
 refine z1j rfl rfl rfl rfl (fun c=>uq (vs:=[p,(.func (.func 68) #[] #[E])]) zvw (z7z (ac.1 (zo rfl c)) (z7z (ad.1 (zo rfl c)) rfl)) ((by have ag:=(sw af (zo rfl c));exact z6r w (zdi (cs:=[E]) zwc fun R1 hq z0 u0 y k0 hy=>by obtain rfl:=z1s.1 k0;exact CallP.mono (zd6 ((l.mono d).mono hq) hy) fun v R2 _ hv=>lh.2 hv) ag)) (fun _ _ h=>h)) fun x z f j=>?_
 replace j:phG (true&&((decide ((↑(ix m.rows e).length:Int)≠m.inputs))==false)) (phX (.bool (ae.getD default))) x z:=j;refine jh rfl (rf rfl rfl (fun n=>(j.1 (zo rfl n)))) (z8 (zx rfl a (fun a=>?_) (fun a=>?_)));refine zm (zk (vi 1) (z8 (qh ?_)));replace b:=z16 a b;obtain rfl:=Option.some.inj b
 refine qd (D:=[]) (J:=[]) (rs:=[.tmp 2]) (vs:=[(vi 1)]) ((k.trans d).trans f) rfl rfl ⟨rfl,trivial⟩ ?_;exact⟨rfl,rfl⟩;refine qb (zu ?_);obtain⟨B,a⟩:=ze a;refine zy (qo rfl rfl B) (zg (vi (e+1)) (z8 ?_));exact⟨dkt,f,je,(o,e+1),Nat.lt_succ_self _,⟨rfl,trivial⟩,prm,a,trivial⟩
 refine jd ?_;exact⟨dkt,d,je,(),trivial,prm,(Option.some.inj a).symm,trivial⟩;rintro aN aj aO C ⟨rfl,_⟩;replace b:=z2m b;refine zm (zk (vi 0) (z8 (qh ?_)));obtain rfl:=Option.some.inj b;refine qd (D:=[]) (J:=[]) (rs:=[.tmp 2]) (vs:=[(vi 0)]) (k.trans C) rfl rfl ⟨rfl,trivial⟩ ?_;exact⟨rfl,rfl⟩
theorem zr5:Enters prog 34:=enters_of func34 rfl (by kernel_rfl)
theorem z3b: ∀ w,(sizeOf 46).run prog w= .ok 1 w:=fun w=>by kernel_rfl
theorem zrd{a b:Bool}:SlOk prog 42 36 (wh a b):=⟨underlying42,z8z⟩
theorem z5w{N:Nat}{R:RH}{s:(List Int)}{c:Value}(k:VRep (tSl false (zq .i64)) R c s){f:Int→Option Bool}{e:Value}(n:FOk1 prog R e (zq .i64) z2i f){r:Int}(b:z06 N s f=some r):CallP prog 80 #[c,e] R (fun v R'=>v=(vi r)):=by
 refine qi (args:=[c,e]) func80 rfl rfl fun A=>?_;rw [z06] at b;refine zm (zk (vi 0) (z8 ?_));obtain⟨o,a,b⟩:=zt b;refine qj (γ:=Unit) (rs [4,19]) (fun g=>[]) (fun g=>[]++A) (fun g R=>o=Ex.go g∧True) ?_ ?_
 refine zm (zg c (zy (qx rfl underlying40 rfl (jg k)) (zg (vi 0) (z8 (q9 (j3 (γ:=Nat×Int) (rs [4,6,8,19]) (fun g=>[(8,(vi g.2))]) (fun g=>[]++A) (fun g R=>yu N s f g.1 g.2=some o∧True) (fun g=>g.1) (N,0) prm ⟨a,trivial⟩ ?_))))));clear a;rintro⟨m,d⟩ y H h ⟨a,_⟩;rcases m with _|m
 exact ql a;replace a:yu N s f (m+1) d=some o:=a;rw [yu] at a;refine zm (zy (j5 rfl rfl) (z8 (zz (zx rfl a (fun a=>?_) (fun a=>?_)))));refine qb (zz (q9 (zm (zg (vi d) (zk (vi d) (qy (zg e (zg c (zg (vi d) ?_)))))))))
 obtain⟨l,a⟩:=ze a;refine uf (i:=d.toNat) rfl z1d rfl (jg (k.mono h)) (zi rfl l.1) (zw l) fun z p=>?_;refine qp rfl ty3 rfl p fun B q=>?_;obtain rfl:=q8.1 q;obtain⟨C,t,a⟩:=zt a;refine za1 rfl rfl rfl ((n.mono h) _ (RH.le.refl _) (ix s d) _ _ (q8.2 rfl) t) fun E F j u=>?_
 obtain rfl:=lh.1 u;refine z8 (zx rfl a (fun a=>?_) (fun a=>?_));refine zm (zg (vi d) (zk (vi d) (z8 (qh ?_))));replace b:=z16 a b;obtain rfl:=Option.some.inj b;refine qd (D:=[]) (J:=[]) (rs:=[.tmp 4]) (vs:=[(vi d)]) (h.trans j) rfl rfl ⟨rfl,trivial⟩ ?_;exact⟨rfl,rfl⟩
 refine qb (zu ?_);obtain⟨w,a⟩:=ze a;refine zy (qo rfl rfl w) (zg (vi (d+1)) (z8 ?_));exact⟨dkt,j,je,(m,d+1),Nat.lt_succ_self _,⟨rfl,trivial⟩,prm,a,trivial⟩;refine jd ?_;exact⟨dkt,h,je,(),trivial,prm,(Option.some.inj a).symm,trivial⟩;rintro I G K x ⟨rfl,_⟩;replace b:=z2m b
 refine zm (zk (vi (-1)) (z8 (qh ?_)));obtain rfl:=Option.some.inj b;refine qd (D:=[]) (J:=[]) (rs:=[.tmp 4]) (vs:=[(vi (-1))]) x rfl rfl ⟨rfl,trivial⟩ ?_;exact⟨rfl,rfl⟩
theorem zt1:Enters prog 80:=enters_of func80 rfl (by kernel_rfl)
theorem z4n{N:Nat}{R:RH}{s:(List Int)}{a:Value}(d:VRep (tSl false (zq .i64)) R a s){f:Int→Option Bool}{b:Value}(e:FOk1 prog R b (zq .i64) z2i f){r:Bool}(c:iq N s f=some r):CallP prog 60 #[a,b] R (fun v R'=>v=(.bool r)):=by
 refine qi (args:=[a,b]) func60 rfl rfl fun A=>?_;rw [iq] at c;refine zm (zk (.bool false) (qy (zg a (zg b ?_))));obtain⟨h,i,c⟩:=zt c;refine jc rfl zt1 rfl (z5w d e i) fun k l g j=>?_;obtain rfl:=j
 refine zy (aa rfl rfl) (zk (.bool (decide (0≤h))) (z8 (qh ?_)));obtain rfl:=Option.some.inj c;refine qd (D:=[]) (J:=[]) (rs:=[.tmp 4]) (vs:=[(.bool (decide (0≤h)))]) g rfl rfl ⟨rfl,trivial⟩ ?_;exact⟨rfl,rfl⟩
theorem zuh:Enters prog 60:=enters_of func60 rfl (by kernel_rfl)
theorem zf4{N:Nat}{R:RH}{c:Int}{p0_:Int}{a:Value}(b:PRep (zq .i64) R a p0_){r:Bool}(d:z9p N c p0_=some r):CallP prog 107 #[(vi c),a] R (fun v R'=>v=(.bool r)):=by
 refine qi (args:=[(vi c),a]) func107 rfl rfl fun A=>?_;rw [z9p] at d;refine zm (zk (.bool false) (qy (jh (v:=(vi c)) rfl (za rfl) (jh rfl (j5 rfl rfl) (jh (v:=(.bool (decide (c<0)))) rfl (za rfl) (qz rfl rfl rfl rfl (fun e=>qm (v:=(vi c)) (za rfl)) fun k h=>?_))))))
 refine qz rfl rfl rfl rfl (fun e=>qm (tq (u7 ty3 rfl b))) fun l f=>?_;refine qz rfl rfl rfl rfl (fun e=>qm (aa (h.1 (zo rfl e)) (f.1 (zo rfl e)))) fun i g=>?_;refine jh rfl (rf rfl rfl (fun j=>(g.1 (zo rfl j)))) (jh (v:=(.bool ((decide (c<0))||(decide (p0_≤c))))) rfl (p8 rfl) (z8 (qh ?_)))
 obtain rfl:=Option.some.inj d;refine qd (D:=[]) (J:=[]) (rs:=[.tmp 3]) (vs:=[(.bool ((decide (c<0))||(decide (p0_≤c))))]) (RH.le.refl _) rfl rfl ⟨rfl,trivial⟩ ?_;exact⟨rfl,rfl⟩
theorem ztr:Enters prog 107:=enters_of func107 rfl (by kernel_rfl)
theorem zco{N:Nat}{R:RH}{x:(List Int)}{b:Value}(e:VRep (tSl false (zq .i64)) R b x){inputs:Int}{r:Int}(a:z3d N x inputs=some r):CallP prog 87 #[b,(vi inputs)] R (fun v R'=>v=(vi r)):=by
 refine qi (args:=[b,(vi inputs)]) func87 rfl rfl fun A=>?_;rw [z3d] at a;refine zm (z9d (T:=(zq .i64)) rfl rfl (q8.2 rfl) fun i L c j=>?_)
 refine zk (vi 0) (z8 (zz (zm (jh rfl (tq (u7 ty3 rfl j)) (jh rfl (l6 rfl rfl) (jh (v:=(.bool (decide (16<inputs)))) rfl (za rfl) (qz rfl rfl rfl rfl (fun d=>qm (v:=b) (za rfl)) fun z k=>?_)))))))
 refine qz rfl rfl rfl rfl (fun d=>qm (qx rfl underlying40 (k.1 (zo rfl d)) (jg (e.mono c)))) fun B l=>?_;refine qz rfl rfl rfl rfl (fun d=>qm (l6 (l.1 (zo rfl d)) rfl)) fun C m=>?_;refine jh rfl (rf rfl rfl (fun n=>(m.1 (zo rfl n)))) (z8 (zx rfl a (fun a=>?_) (fun a=>?_)))
 refine zm (zk (vi 3) (z8 (qh ?_)));obtain rfl:=Option.some.inj a;refine qd (D:=[]) (J:=[]) (rs:=[.tmp 4]) (vs:=[(vi 3)]) c rfl rfl ⟨rfl,trivial⟩ ?_;exact⟨rfl,rfl⟩
 refine qb (zz (zm (jh rfl (tq (u7 ty3 rfl j)) (jh rfl (j5 rfl rfl) (jh (v:=(.bool (decide (inputs<1)))) rfl (za rfl) (qz rfl rfl rfl rfl (fun d=>qm (v:=b) (za rfl)) fun E o=>?_))))))
 refine qz rfl rfl rfl rfl (fun d=>qm (v:=(.func (.func 107) #[] #[i])) (z0c (fs:=[]) (cs:=[i]) rfl rfl)) fun F p=>?_;obtain⟨q,s,a⟩:=zt a
 refine z1j rfl rfl rfl rfl (fun d=>uq (vs:=[b,(.func (.func 107) #[] #[i])]) zuh (z7z (o.1 (zo rfl d)) (z7z (p.1 (zo rfl d)) rfl)) ((by have t:=(sw s (zo rfl d));exact z4n (e.mono c) (zdi (cs:=[i]) ztr fun M G O P y H I=>by obtain rfl:=q8.1 H;exact CallP.mono (zf4 (j.mono G) I) fun v Q _ K=>lh.2 K) t)) (fun _ _ h=>h)) fun u w f g=>?_
 replace g:phG (true&&((decide (inputs<1))==false)) (phX (.bool (q.getD default))) u w:=g;refine jh rfl (rf rfl rfl (fun n=>(g.1 (zo rfl n)))) (z8 (zx rfl a (fun a=>?_) (fun a=>?_)));refine zm (zk (vi 1) (z8 (qh ?_)));obtain rfl:=Option.some.inj a
 refine qd (D:=[]) (J:=[]) (rs:=[.tmp 4]) (vs:=[(vi 1)]) (c.trans f) rfl rfl ⟨rfl,trivial⟩ ?_;exact⟨rfl,rfl⟩;refine qb (zm (zk (vi 0) (z8 (qh ?_))));obtain rfl:=Option.some.inj a;refine qd (D:=[]) (J:=[]) (rs:=[.tmp 4]) (vs:=[(vi 0)]) (c.trans f) rfl rfl ⟨rfl,trivial⟩ ?_;exact⟨rfl,rfl⟩
theorem zu8:Enters prog 87:=enters_of func87 rfl (by kernel_rfl)
theorem zgn{N:Nat}{R:RH}{p:(List (List Int))}{c:Value}(d:VRep (tSl false (tSl false (zq .i64))) R c p){inputs:Int}{r:Int}(b:z7o N p inputs=some r):CallP prog 70 #[c,(vi inputs)] R (fun v R'=>v=(vi r)):=by
 refine qi (args:=[c,(vi inputs)]) func70 rfl rfl fun A=>?_;rw [z7o] at b
 refine zm (zk (vi 0) (z8 (zz (zm (jh (v:=(vi inputs)) rfl (za rfl) (jh rfl (l6 rfl rfl) (jh (v:=(.bool (decide (16<inputs)))) rfl (za rfl) (qz rfl rfl rfl rfl (fun q=>qm (v:=c) (za rfl)) fun P B=>?_))))))))
 refine qz rfl rfl rfl rfl (fun q=>qm (qx rfl underlying38 (B.1 (zo rfl q)) (jg d))) fun Q s=>?_;refine qz rfl rfl rfl rfl (fun q=>qm (l6 (s.1 (zo rfl q)) rfl)) fun C t=>?_;refine jh rfl (rf rfl rfl (fun E=>(t.1 (zo rfl E)))) (z8 (zx rfl b (fun b=>?_) (fun b=>?_)))
 refine zm (zk (vi 3) (z8 (qh ?_)));obtain rfl:=Option.some.inj b;refine qd (D:=[]) (J:=[]) (rs:=[.tmp 4]) (vs:=[(vi 3)]) (RH.le.refl _) rfl rfl ⟨rfl,trivial⟩ ?_;exact⟨rfl,rfl⟩;refine qb (zz (zm (zg (vi inputs) (zy (j5 rfl rfl) (z8 (zx rfl b (fun b=>?_) (fun b=>?_)))))))
 refine zm (zk (vi 1) (z8 (qh ?_)));obtain rfl:=Option.some.inj b;refine qd (D:=[]) (J:=[]) (rs:=[.tmp 4]) (vs:=[(vi 1)]) (RH.le.refl _) rfl rfl ⟨rfl,trivial⟩ ?_;exact⟨rfl,rfl⟩;refine qb ?_;obtain⟨l,a,b⟩:=zt b
 refine qj (γ:=Unit) (rs [4,5,6,8,17,30]) (fun g=>[]) (fun g=>[]++A) (fun g R=>l=Ex.go g∧True) ?_ ?_
 refine zm (zg c (zy (qx rfl underlying38 rfl (jg d)) (zg (vi 0) (z8 (q9 (j3 (γ:=Nat×Int) (rs [4,5,6,8,19,30]) (fun g=>[(19,(vi g.2))]) (fun g=>[]++A) (fun g R=>z0g N p inputs g.1 g.2=some l∧True) (fun g=>g.1) (N,0) prm ⟨a,trivial⟩ ?_))))));clear a;rintro⟨h,j⟩ F G e ⟨a,_⟩
 rcases h with _|h;exact ql a;replace a:z0g N p inputs (h+1) j=some l:=a;rw [z0g] at a;refine zm (zy (j5 rfl rfl) (z8 (zz (zx rfl a (fun a=>?_) (fun a=>?_)))));refine qb (zz (q9 (zm ?_)));obtain⟨m,a⟩:=ze a
 refine uf (i:=j.toNat) rfl z6x rfl (jg (d.mono e)) (zi rfl m.1) (zw m) fun H u=>?_;refine qp rfl z6m rfl u fun n w=>?_;refine zk n (qy (zg n (zg (vi inputs) ?_)));obtain⟨f,x,a⟩:=zt a;refine jc rfl zu8 rfl (zco w x) fun I K k y=>?_;obtain rfl:=y
 refine zk (vi f) (qy (zg (vi f) (zy (vv rfl rfl) (z8 (zx rfl a (fun a=>?_) (fun a=>?_))))));refine zm (zg (vi f) (zk (vi f) (z8 (qh ?_))));replace b:=z16 a b;obtain rfl:=Option.some.inj b
 refine qd (D:=[]) (J:=[]) (rs:=[.tmp 4]) (vs:=[(vi f)]) (e.trans k) rfl rfl ⟨rfl,trivial⟩ ?_;exact⟨rfl,rfl⟩;refine qb (zu ?_);obtain⟨z,a⟩:=ze a;refine zy (qo rfl rfl z) (zg (vi (j+1)) (z8 ?_));exact⟨dkt,k,je,(h,j+1),Nat.lt_succ_self _,⟨rfl,trivial⟩,prm,a,trivial⟩;refine jd ?_
 exact⟨dkt,e,je,(),trivial,prm,(Option.some.inj a).symm,trivial⟩;rintro L M O o ⟨rfl,_⟩;replace b:=z2m b;refine zm (zk (vi 0) (z8 (qh ?_)));obtain rfl:=Option.some.inj b;refine qd (D:=[]) (J:=[]) (rs:=[.tmp 4]) (vs:=[(vi 0)]) o rfl rfl ⟨rfl,trivial⟩ ?_;exact⟨rfl,rfl⟩
theorem zun:Enters prog 70:=enters_of func70 rfl (by kernel_rfl)
theorem zao{N:Nat}{R:RH}{x:Int}{r:Bool}(a:cmp_isNaN_int N x=some r):CallP prog 125 #[(vi x)] R (fun v R'=>v=(.bool r)):=by
 refine qi (args:=[(vi x)]) func125 rfl rfl fun A=>?_;rw [cmp_isNaN_int] at a;refine zm (zk (.bool false) (qy (zg (vi x) (zg (vi x) (zy (vv rfl rfl) (zk (.bool (decide (x≠x))) (z8 (qh ?_))))))));obtain rfl:=Option.some.inj a
 refine qd (D:=[]) (J:=[]) (rs:=[.tmp 2]) (vs:=[(.bool (decide (x≠x)))]) (RH.le.refl _) rfl rfl ⟨rfl,trivial⟩ ?_;exact⟨rfl,rfl⟩
theorem zqp:Enters prog 125:=enters_of func125 rfl (by kernel_rfl)
theorem z9h{N:Nat}{R:RH}{x:Int}{y:Int}{r:Int}(a:cmp_Compare_int N x y=some r):CallP prog 109 #[(vi x),(vi y)] R (fun v R'=>v=(vi r)):=by
 refine qi (args:=[(vi x),(vi y)]) func109 rfl rfl fun A=>?_;rw [cmp_Compare_int] at a;refine zm (zk (vi 0) (qy (zg (vi x) ?_)));obtain⟨f,g,a⟩:=zt a;refine jc rfl zqp rfl (zao  g) fun k l c h=>?_;obtain rfl:=h;refine zk (.bool f) (qy (zg (vi y) ?_))
 obtain⟨d,i,a⟩:=zt a;refine jc rfl zqp rfl (zao  i) fun m j b e=>?_;obtain rfl:=e;refine zk (.bool d) (z8 (zz (zm (zg (.bool f) (z8 (zx rfl a (fun a=>?_) (fun a=>?_)))))));refine zz (zm (zg (.bool d) (z8 (zx rfl a (fun a=>?_) (fun a=>?_)))))
 refine zm (zk (vi 0) (z8 (qh ?_)));obtain rfl:=Option.some.inj a;refine qd (D:=[]) (J:=[]) (rs:=[.tmp 4]) (vs:=[(vi 0)]) (c.trans b) rfl rfl ⟨rfl,trivial⟩ ?_;exact⟨rfl,rfl⟩;refine qb (zm (zk (vi (-1)) (z8 (qh ?_))));obtain rfl:=Option.some.inj a
 refine qd (D:=[]) (J:=[]) (rs:=[.tmp 4]) (vs:=[(vi (-1))]) (c.trans b) rfl rfl ⟨rfl,trivial⟩ ?_;exact⟨rfl,rfl⟩;refine qb (zz (zm (zg (.bool d) (z8 (zx rfl a (fun a=>?_) (fun a=>?_))))));refine zm (zk (vi 1) (z8 (qh ?_)));obtain rfl:=Option.some.inj a
 refine qd (D:=[]) (J:=[]) (rs:=[.tmp 4]) (vs:=[(vi 1)]) (c.trans b) rfl rfl ⟨rfl,trivial⟩ ?_;exact⟨rfl,rfl⟩;refine qb (zz (zm (zg (vi x) (zg (vi y) (zy (j5 rfl rfl) (z8 (zx rfl a (fun a=>?_) (fun a=>?_))))))));refine zm (zk (vi (-1)) (z8 (qh ?_)));obtain rfl:=Option.some.inj a
 refine qd (D:=[]) (J:=[]) (rs:=[.tmp 4]) (vs:=[(vi (-1))]) (c.trans b) rfl rfl ⟨rfl,trivial⟩ ?_;exact⟨rfl,rfl⟩;refine qb (zz (zm (zg (vi x) (zg (vi y) (zy (l6 rfl rfl) (z8 (zx rfl a (fun a=>?_) (fun a=>?_))))))));refine zm (zk (vi 1) (z8 (qh ?_)));obtain rfl:=Option.some.inj a
 refine qd (D:=[]) (J:=[]) (rs:=[.tmp 4]) (vs:=[(vi 1)]) (c.trans b) rfl rfl ⟨rfl,trivial⟩ ?_;exact⟨rfl,rfl⟩;refine qb (zm (zk (vi 0) (z8 (qh ?_))));obtain rfl:=Option.some.inj a;refine qd (D:=[]) (J:=[]) (rs:=[.tmp 4]) (vs:=[(vi 0)]) (c.trans b) rfl rfl ⟨rfl,trivial⟩ ?_;exact⟨rfl,rfl⟩
theorem zqm:Enters prog 109:=enters_of func109 rfl (by kernel_rfl)
theorem zbl{N:Nat}{R:RH}{s1_:(List Int)}{d:Value}(e:VRep (tSl false (zq .i64)) R d s1_){s2_:(List Int)}{c:Value}(f:VRep (tSl false (zq .i64)) R c s2_){r:Int}(b:z2c N s1_ s2_=some r):CallP prog 110 #[d,c] R (fun v R'=>v=(vi r)):=by
 refine qi (args:=[d,c]) func110 rfl rfl fun A=>?_;rw [z2c] at b;refine zm (zk (vi 0) (z8 ?_));obtain⟨q,a,b⟩:=zt b;refine qj (γ:=Unit) (rs [4,31]) (fun g=>[]) (fun g=>[]++A) (fun g R=>q=Ex.go g∧True) ?_ ?_
 refine zm (zg d (zy (qx rfl underlying40 rfl (jg e)) (zg (vi 0) (z8 (q9 (j3 (γ:=Nat×Int) (rs [4,9,11,31]) (fun g=>[(11,(vi g.2))]) (fun g=>[]++A) (fun g R=>dw N s1_ s2_ g.1 g.2=some q∧True) (fun g=>g.1) (N,0) prm ⟨a,trivial⟩ ?_))))));clear a;rintro⟨p,h⟩ B L j ⟨a,_⟩
 rcases p with _|p;exact ql a;replace a:dw N s1_ s2_ (p+1) h=some q:=a;rw [dw] at a;refine zm (zy (j5 rfl rfl) (z8 (zz (zx rfl a (fun a=>?_) (fun a=>?_)))));refine qb (zz (q9 (zm (zg (vi h) ?_))));obtain⟨n,a⟩:=ze a
 refine uf (i:=h.toNat) rfl z1d rfl (jg (e.mono j)) (zi rfl n.1) (zw n) fun C s=>?_;refine qp rfl ty3 rfl s fun E t=>?_;obtain rfl:=q8.1 t
 refine zk (vi h) (zk (vi (ix s1_ h)) (z8 (zz (zm (zg (vi h) (zg c (zy (qx rfl underlying40 rfl (jg (f.mono j))) (zy (aa rfl rfl) (z8 (zx rfl a (fun a=>?_) (fun a=>?_)))))))))));refine zm (zk (vi 1) (z8 (qh ?_)));replace b:=z16 a b;obtain rfl:=Option.some.inj b
 refine qd (D:=[]) (J:=[]) (rs:=[.tmp 4]) (vs:=[(vi 1)]) j rfl rfl ⟨rfl,trivial⟩ ?_;exact⟨rfl,rfl⟩;refine qb (zm (zg c (zg (vi h) ?_)));obtain⟨o,a⟩:=ze a;refine uf (i:=h.toNat) rfl z1d rfl (jg (f.mono j)) (zi rfl o.1) (zw o) fun F u=>?_;refine qp rfl ty3 rfl u fun G w=>?_
 obtain rfl:=q8.1 w;refine zk (vi (ix s2_ h)) (qy (zg (vi (ix s1_ h)) (zg (vi (ix s2_ h)) ?_)));obtain⟨k,x,a⟩:=zt a;refine jc rfl zqm rfl (z9h  x) fun H I m y=>?_;obtain rfl:=y
 refine zk (vi k) (qy (zg (vi k) (zy (vv rfl rfl) (z8 (zx rfl a (fun a=>?_) (fun a=>?_))))));refine zm (zg (vi k) (zk (vi k) (z8 (qh ?_))));replace b:=z16 a b;obtain rfl:=Option.some.inj b
 refine qd (D:=[]) (J:=[]) (rs:=[.tmp 4]) (vs:=[(vi k)]) (j.trans m) rfl rfl ⟨rfl,trivial⟩ ?_;exact⟨rfl,rfl⟩;refine qb (zu ?_);obtain⟨z,a⟩:=ze a;refine zy (qo rfl rfl z) (zg (vi (h+1)) (z8 ?_));exact⟨dkt,m,je,(p,h+1),Nat.lt_succ_self _,⟨rfl,trivial⟩,prm,a,trivial⟩;refine jd ?_
 exact⟨dkt,j,je,(),trivial,prm,(Option.some.inj a).symm,trivial⟩;rintro M K O l ⟨rfl,_⟩;replace b:=z2m b
 refine zz (zm (zg d (zy (qx rfl underlying40 rfl (jg (e.mono l))) (zg c (zy (qx rfl underlying40 rfl (jg (f.mono l))) (zy (j5 rfl rfl) (z8 (zx rfl b (fun b=>?_) (fun b=>?_)))))))));refine zm (zk (vi (-1)) (z8 (qh ?_)));obtain rfl:=Option.some.inj b
 refine qd (D:=[]) (J:=[]) (rs:=[.tmp 4]) (vs:=[(vi (-1))]) l rfl rfl ⟨rfl,trivial⟩ ?_;exact⟨rfl,rfl⟩;refine qb (zm (zk (vi 0) (z8 (qh ?_))));obtain rfl:=Option.some.inj b;refine qd (D:=[]) (J:=[]) (rs:=[.tmp 4]) (vs:=[(vi 0)]) l rfl rfl ⟨rfl,trivial⟩ ?_;exact⟨rfl,rfl⟩
theorem zsu:Enters prog 110:=enters_of func110 rfl (by kernel_rfl)
theorem zif{N:Nat}{R:RH}{vals:(List Int)}{b:Value}(d:VRep (tSl false (zq .i64)) R b vals){r:Int}(c:z8m N vals=some r):CallP prog 108 #[b] R (fun v R'=>v=(vi r)):=by
 refine qi (args:=[b]) func108 rfl rfl fun A=>?_;rw [z8m] at c;refine zm (zk (vi 0) (qy (zk (vi 0) (z8 ?_))));obtain⟨k,a,c⟩:=zt c;refine qj (γ:=Unit) (rs [2,3,5,17]) (fun g=>[]) (fun g=>[]++A) (fun g R=>k=Ex.go g∧True) ?_ ?_
 refine zm (zg b (zy (qx rfl underlying40 rfl (jg d)) (zg (vi 0) (z8 (q9 (j3 (γ:=Nat×Int) (rs [2,3,5,6,8,17]) (fun g=>[(8,(vi g.2))]) (fun g=>[]++A) (fun g R=>lv N vals g.1 g.2=some k∧True) (fun g=>g.1) (N,0) prm ⟨a,trivial⟩ ?_))))));clear a;rintro⟨j,e⟩ p u f ⟨a,_⟩
 rcases j with _|j;exact ql a;replace a:lv N vals (j+1) e=some k:=a;rw [lv] at a;refine zm (zy (j5 rfl rfl) (z8 (zz (zx rfl a (fun a=>?_) (fun a=>?_)))));refine qb (zz (q9 (zm ?_)));obtain⟨h,a⟩:=ze a
 refine uf (i:=e.toNat) rfl z1d rfl (jg (d.mono f)) (zi rfl h.1) (zw h) fun q l=>?_;refine qp rfl ty3 rfl l fun s m=>?_;obtain rfl:=q8.1 m;refine zk (vi (ix vals e)) (qy (zg (vi (ix vals e)) (zg (vi 0) (zy (vv rfl rfl) (z8 (zx rfl a (fun a=>?_) (fun a=>?_)))))))
 refine zm (zg (vi (ix vals e)) (zk (vi (ix vals e)) (z8 (qh ?_))));replace c:=z16 a c;obtain rfl:=Option.some.inj c;refine qd (D:=[]) (J:=[]) (rs:=[.tmp 2]) (vs:=[(vi (ix vals e))]) f rfl rfl ⟨rfl,trivial⟩ ?_;exact⟨rfl,rfl⟩;refine qb (zu ?_);obtain⟨n,a⟩:=ze a
 refine zy (qo rfl rfl n) (zg (vi (e+1)) (z8 ?_));exact⟨dkt,(RH.le.refl _),je,(j,e+1),Nat.lt_succ_self _,⟨rfl,trivial⟩,prm,a,trivial⟩;refine jd ?_;exact⟨dkt,f,je,(),trivial,prm,(Option.some.inj a).symm,trivial⟩;rintro w t x o ⟨rfl,_⟩;replace c:=z2m c
 refine zm (zg (vi 0) (zk (vi 0) (z8 (qh ?_))));obtain rfl:=Option.some.inj c;refine qd (D:=[]) (J:=[]) (rs:=[.tmp 2]) (vs:=[(vi 0)]) o rfl rfl ⟨rfl,trivial⟩ ?_;exact⟨rfl,rfl⟩
theorem zu4:Enters prog 108:=enters_of func108 rfl (by kernel_rfl)
theorem zf3{N:Nat}{R:RH}{a:(List Int)}{d:Value}(i:VRep (tSl false (zq .i64)) R d a){b:(List Int)}{e:Value}(j:VRep (tSl false (zq .i64)) R e b){r:Int}(c:z4r N a b=some r):CallP prog 88 #[d,e] R (fun v R'=>v=(vi r)):=by
 refine qi (args:=[d,e]) func88 rfl rfl fun A=>?_;rw [z4r] at c;refine zm (zk (vi 0) (qy (zg d (zy (qx rfl underlying40 rfl (jg i)) (zg e (zy (qx rfl underlying40 rfl (jg j)) ?_))))));obtain⟨o,z,c⟩:=zt c;refine jc rfl zqm rfl (z9h  z) fun H I f C=>?_
 obtain rfl:=C;refine zg d (zg e ?_);obtain⟨p,E,c⟩:=zt c;refine jc rfl zsu rfl (zbl (i.mono f) (j.mono f) E) fun K F k q=>?_;obtain rfl:=q
 refine yo (T:=(zq .i64)) (X:=([o,p]:List Int)) (ps:=[(0,(vi o)),(1,(vi p))]) (css:=[[(vi o)],[(vi p)]]) rfl underlying40 zo3 rfl rfl (jb ⟨rfl,rfl,trivial⟩) rfl rfl (by decide) fun l s g u=>?_;obtain⟨h,w,c⟩:=zt c
 refine z99 (cs:=[]) (vs:=[l]) (φ:=fun v=>v=(vi h)) rfl zu4 rfl rfl (fun x m n=>zif (Sub.v (B:=(tSl false (zq .i64))) (uh Sub.refl (fun _=>rfl)) (z0q (t:=true) ((zd5 0 rfl u m n):VRep (mf (zq .i64)) x l ([o,p]:List Int)) g)) w) fun G y=>?_;obtain rfl:=y
 refine zk (vi h) (z8 (qh ?_));obtain rfl:=Option.some.inj c;refine qd (D:=[]) (J:=[s]) (rs:=[.tmp 4]) (vs:=[(vi h)]) (f.trans k) rfl rfl ⟨rfl,trivial⟩ ?_;exact⟨rfl,rfl⟩
theorem zv2:Enters prog 88:=enters_of func88 rfl (by kernel_rfl)
theorem zgm{N:Nat}{R:RH}{n:(List (List Int))}{c:Value}(k:VRep (tSl false (tSl false (zq .i64))) R c n){r:Bool}(d:z7r N n=some r):CallP prog 71 #[c] R (fun v R'=>v=(.bool r)):=by
 refine qi (args:=[c]) func71 rfl rfl fun A=>?_;rw [z7r] at d;refine zm (zk (.bool false) (z8 ?_));obtain⟨w,a,d⟩:=zt d;refine qj (γ:=Unit) (rs [2,21]) (fun g=>[]) (fun g=>[]++A) (fun g R=>w=Ex.go g∧True) ?_ ?_
 refine zm (zk (vi 1) (z8 (q9 (j3 (γ:=Nat×Int) (rs [2,21]) (fun g=>[(3,(vi g.2))]) (fun g=>[]++A) (fun g R=>z00 N n g.1 g.2=some w∧True) (fun g=>g.1) (N,1) prm ⟨a,trivial⟩ ?_))));clear a;rintro⟨u,e⟩ O R7 m ⟨a,_⟩;rcases u with _|u;exact ql a
 replace a:z00 N n (u+1) e=some w:=a;rw [z00] at a;refine zz (zm (zg (vi e) (zg c (zy (qx rfl underlying38 rfl (jg (k.mono m))) (zy (j5 rfl rfl) (z8 (zx rfl a (fun a=>?_) (fun a=>?_))))))));refine qb (zz (q9 (zz ?_)));obtain⟨x,p,q,a⟩:=znj a;obtain⟨s,y,a⟩:=zt a
 refine ym 11 [] [phX c,phX (vi e),phX (vi (e-1)),phP (tSl false (zq .i64)) (ix n (e-1)),phR (tSl false (zq .i64)) (ix n (e-1)),phX c,phX (vi e),phP (tSl false (zq .i64)) (ix n e),phR (tSl false (zq .i64)) (ix n e),phX (vi s),phX (.bool (decide (0≤s)))] mixed (by kernel_rfl) (wm ⟨zf,zf,zf,yf,nz,zf,zf,yf,nz,zf,zf,trivial⟩) ⟨?_,?_,?_,?_,?_,?_,?_,?_,?_,?_,?_,trivial⟩ fun P o=>?_
 intro l Q b f z;exact zb rfl rfl rfl (zh (za (f 0 rfl)));intro l S b f z;exact zb rfl rfl rfl (zh (za (f 3 rfl)));rintro l T b f ⟨j,_⟩;exact zb rfl rfl rfl (zh (uo (j rfl) rfl x));rintro l U b f ⟨j,t,_⟩
 exact zb rfl rfl rfl (xm (i:=(e-1).toNat) z6x (j rfl) (jg ((k.mono m).mono b)) (zi (t rfl) p.1) (zw p));rintro l V b f ⟨j,_⟩;exact zb rfl rfl rfl (jy z6m rfl (j rfl));intro l W b f z;exact zb rfl rfl rfl (zh (za (f 0 rfl)));intro l X b f z
 exact zb rfl rfl rfl (zh (za (f 3 rfl)));rintro l Y b f ⟨j,t,_⟩;exact zb rfl rfl rfl (xm (i:=e.toNat) z6x (j rfl) (jg ((k.mono m).mono b)) (zi (t rfl) q.1) (zw q));rintro l Z b f ⟨j,_⟩;exact zb rfl rfl rfl (jy z6m rfl (j rfl));rintro l ab b f ⟨j,t,_⟩
 exact zb rfl rfl rfl (uq (vs:=[(l 14),(l 18)]) zv2 rfl (zf3 (j rfl) (t rfl) y) (fun _ _ h=>h));rintro l M b f ⟨j,_⟩;exact zb rfl rfl rfl (zh (aa (j rfl) rfl));intro ac B ad C ae E af ag ah ai aj F ak G al am an ao ap H aq I;obtain rfl:=Eq.symm B;obtain rfl:=Eq.symm C;obtain rfl:=Eq.symm E
 obtain rfl:=Eq.symm F;obtain rfl:=Eq.symm G;obtain rfl:=Eq.symm H;obtain rfl:=Eq.symm I;refine z8 (zx rfl a (fun a=>?_) (fun a=>?_));refine zm (zk (.bool false) (z8 (qh ?_)));replace d:=z16 a d;obtain rfl:=Option.some.inj d
 refine qd (D:=[]) (J:=[]) (rs:=[.tmp 2]) (vs:=[(.bool false)]) (m.trans o) rfl rfl ⟨rfl,trivial⟩ ?_;exact⟨rfl,rfl⟩;refine qb (zu (zg (vi e) ?_));obtain⟨K,a⟩:=ze a;refine zy (qo rfl rfl K) (zk (vi (e+1)) (z8 ?_));exact⟨dkt,o,je,(u,e+1),Nat.lt_succ_self _,⟨rfl,trivial⟩,prm,a,trivial⟩
 refine jd ?_;exact⟨dkt,m,je,(),trivial,prm,(Option.some.inj a).symm,trivial⟩;rintro o1 ar R3 L ⟨rfl,_⟩;replace d:=z2m d;refine zm (zk (.bool true) (z8 (qh ?_)));obtain rfl:=Option.some.inj d;refine qd (D:=[]) (J:=[]) (rs:=[.tmp 2]) (vs:=[(.bool true)]) L rfl rfl ⟨rfl,trivial⟩ ?_;exact⟨rfl,rfl⟩
theorem zv5:Enters prog 71:=enters_of func71 rfl (by kernel_rfl)
theorem zgr{N:Nat}{R:RH}{f:(List (List Int))}{b:Value}(d:VRep (tSl false (tSl false (zq .i64))) R b f){r:Int}(c:z7q N f=some r):CallP prog 72 #[b] R (fun v R'=>v=(vi r)):=by
 refine qi (args:=[b]) func72 rfl rfl fun A=>?_;rw [z7q] at c;refine zm (zk (vi 0) (z8 ?_));obtain⟨e,a,c⟩:=zt c;refine qj (γ:=Int) (rs [2,3,4,16]) (fun g=>[(2,(vi g))]) (fun g=>[]++A) (fun g R=>e=g∧True) ?_ ?_
 refine zm (zg b (zy (qx rfl underlying38 rfl (jg d)) (zg (vi 0) (z8 (q9 (j3 (γ:=Nat×Int×Int) (rs [2,3,4,5,7,16]) (fun g=>[(2,(vi g.2.1)),(7,(vi g.2.2))]) (fun g=>[]++A) (fun g R=>z0h N f g.1 g.2.1 g.2.2=some e∧True) (fun g=>g.1) (N,0,0) prm ⟨a,trivial⟩ ?_))))));clear a
 rintro⟨n,j,h⟩ u y k ⟨a,_⟩;rcases n with _|n;exact ql a;replace a:z0h N f (n+1) j h=some e:=a;rw [z0h] at a;refine zm (zy (j5 rfl rfl) (z8 (zz (zx rfl a (fun a=>?_) (fun a=>?_)))));refine qb (zz (q9 (zm ?_)));obtain⟨l,a⟩:=ze a
 refine uf (i:=h.toNat) rfl z6x rfl (jg (d.mono k)) (zi rfl l.1) (zw l) fun w o=>?_;refine qp rfl z6m rfl o fun m p=>?_;refine zk m (z8 (zu (zg (vi j) (zg m (zy (qx rfl underlying40 rfl (jg p)) ?_)))));obtain⟨q,a⟩:=ze a
 refine zy (qo rfl rfl q) (zk (vi (j+(↑(ix f h).length:Int))) (z8 (zu ?_)));obtain⟨s,a⟩:=ze a;refine zy (qo rfl rfl s) (zg (vi (h+1)) (z8 ?_));exact⟨dkt,(RH.le.refl _),je,(n,j+(↑(ix f h).length:Int),h+1),Nat.lt_succ_self _,⟨rfl,rfl,trivial⟩,prm,a,trivial⟩;refine jd ?_
 exact⟨dkt,k,je,j,⟨rfl,trivial⟩,prm,(Option.some.inj a).symm,trivial⟩;rintro e x z t ⟨rfl,_⟩;refine zm (zg (vi e) (zk (vi e) (z8 (qh ?_))));obtain rfl:=Option.some.inj c;refine qd (D:=[]) (J:=[]) (rs:=[.tmp 2]) (vs:=[(vi e)]) t rfl rfl ⟨rfl,trivial⟩ ?_;exact⟨rfl,rfl⟩
theorem zuv:Enters prog 72:=enters_of func72 rfl (by kernel_rfl)
theorem zgk{N:Nat}{R:RH}{k:(List (List Int))}{b:Value}(e:VRep (tSl false (tSl false (zq .i64))) R b k){inputs:Int}{r:Int}(a:z7p N k inputs=some r):CallP prog 35 #[b,(vi inputs)] R (fun v R'=>v=(vi r)):=by
 refine qi (args:=[b,(vi inputs)]) func35 rfl rfl fun A=>?_;rw [z7p] at a;refine zm (zk (vi 0) (z8 (zz (zm (zg b (zg (vi inputs) ?_))))));obtain⟨g,l,a⟩:=zt a;refine jc rfl zun rfl (zgn e l) fun u w d m=>?_;obtain rfl:=m
 refine zk (vi g) (qy (zg (vi g) (zy (vv rfl rfl) (z8 (zx rfl a (fun a=>?_) (fun a=>?_))))));refine zm (zg (vi g) (zk (vi g) (z8 (qh ?_))));obtain rfl:=Option.some.inj a;refine qd (D:=[]) (J:=[]) (rs:=[.tmp 4]) (vs:=[(vi g)]) d rfl rfl ⟨rfl,trivial⟩ ?_;exact⟨rfl,rfl⟩
 refine qb (zz (zm (zg b ?_)));obtain⟨x,n,a⟩:=zt a;refine jc rfl zv5 rfl (zgm (e.mono d) n) fun o p c h=>?_;obtain rfl:=h;refine zy (ru rfl) (z8 (zx rfl a (fun a=>?_) (fun a=>?_)));refine zm (zk (vi 1) (z8 (qh ?_)));obtain rfl:=Option.some.inj a
 refine qd (D:=[]) (J:=[]) (rs:=[.tmp 4]) (vs:=[(vi 1)]) (d.trans c) rfl rfl ⟨rfl,trivial⟩ ?_;exact⟨rfl,rfl⟩;refine qb (zz (zm (zg b ?_)));obtain⟨q,i,a⟩:=zt a;refine jc rfl zuv rfl (zgr (e.mono (d.trans c)) i) fun s t f j=>?_;obtain rfl:=j
 refine zy (l6 rfl rfl) (z8 (zx rfl a (fun a=>?_) (fun a=>?_)));refine zm (zk (vi 3) (z8 (qh ?_)));obtain rfl:=Option.some.inj a;refine qd (D:=[]) (J:=[]) (rs:=[.tmp 4]) (vs:=[(vi 3)]) ((d.trans c).trans f) rfl rfl ⟨rfl,trivial⟩ ?_;exact⟨rfl,rfl⟩;refine qb (zm (zk (vi 0) (z8 (qh ?_))))
 obtain rfl:=Option.some.inj a;refine qd (D:=[]) (J:=[]) (rs:=[.tmp 4]) (vs:=[(vi 0)]) ((d.trans c).trans f) rfl rfl ⟨rfl,trivial⟩ ?_;exact⟨rfl,rfl⟩
theorem zvk:Enters prog 35:=enters_of func35 rfl (by kernel_rfl)
theorem z2h:FieldOk prog 46 0 0:=by
 obtain⟨i,hi,a⟩: ∃ i,prog.info? 38=some i∧i.size=1:=u6 (by kernel_rfl);exact xn underlying46 rfl rfl hi (by rw [a];rfl)
theorem zjt: ∀ w,(isAgg 38).run prog w= .ok false w:=fun w=>by kernel_rfl
theorem zuk:ZeroOk prog 40 tHdr vs0 24:=by
 obtain⟨i,zv,hi,a,c,d,f⟩:=z3r (P:=prog) (e:=40) (zv:=vs0) (k:=1) (b:=24) (by kernel_rfl);exact⟨i,zv,hi,a,c,d,fun R=>by subst f;exact⟨rfl,rfl⟩⟩
theorem ze7{N:Nat}{R:RH}{m:Mach}{e:Value}(f:VRep (wh false false) R e m){s:Int}{r:Int}(a:z4i N m s=some r):CallP prog 89 #[e,(vi s)] R (fun v R'=>v=(vi r)):=by
 refine qi (args:=[e,(vi s)]) func89 rfl rfl fun A=>?_;rw [z4i] at a;refine zm (um (T:=(wh false false)) rfl rfl rfl f fun C E c n o=>?_);refine zk (vi 0) (z8 (zz (zm (zy (ku z8z rfl rfl n (f.mono c)) ?_))));obtain⟨g,p,a⟩:=zt a
 refine jc rfl zr5 rfl (z6s (f.mono c) p) fun F q b t=>?_;obtain rfl:=t;refine zk (vi g) (qy (zg (vi g) (zy (vv rfl rfl) (z8 (zx rfl a (fun a=>?_) (fun a=>?_))))));refine zm (zg (vi g) (zk (vi g) (z8 (qh ?_))));obtain rfl:=Option.some.inj a
 refine qd (D:=[]) (J:=[]) (rs:=[.tmp 4]) (vs:=[(vi g)]) (c.trans b) rfl rfl ⟨rfl,trivial⟩ ?_;exact⟨rfl,rfl⟩;refine qb (zz (zm (jh (v:=(vi s)) rfl (za rfl) (jh rfl (j5 rfl rfl) (jh (v:=(.bool (decide (s<0)))) rfl (za rfl) (qz rfl rfl rfl rfl (fun d=>qm (v:=(vi s)) (za rfl)) fun u h=>?_))))))
 refine qz rfl rfl rfl rfl (fun d=>uy o8 ah rfl (o.mono b)) fun w i=>?_;refine qz rfl rfl rfl rfl (fun d=>u7 z7s rfl (i.1 (zo rfl d))) fun x j=>?_;refine qz rfl rfl rfl rfl (fun d=>qm (qx rfl underlying34 rfl (jg (j.1 (zo rfl d))))) fun y k=>?_
 refine qz rfl rfl rfl rfl (fun d=>qm (aa (h.1 (zo rfl d)) (k.1 (zo rfl d)))) fun z l=>?_;refine jh rfl (rf rfl rfl (fun B=>(l.1 (zo rfl B)))) (z8 (zx rfl a (fun a=>?_) (fun a=>?_)));refine zm (zk (vi 1) (z8 (qh ?_)));obtain rfl:=Option.some.inj a
 refine qd (D:=[]) (J:=[]) (rs:=[.tmp 4]) (vs:=[(vi 1)]) (c.trans b) rfl rfl ⟨rfl,trivial⟩ ?_;exact⟨rfl,rfl⟩;refine qb (zm (zk (vi 0) (z8 (qh ?_))));obtain rfl:=Option.some.inj a;refine qd (D:=[]) (J:=[]) (rs:=[.tmp 4]) (vs:=[(vi 0)]) (c.trans b) rfl rfl ⟨rfl,trivial⟩ ?_;exact⟨rfl,rfl⟩
theorem zvm:Enters prog 89:=enters_of func89 rfl (by kernel_rfl)
theorem zfa{N:Nat}{R:RH}{m:Mach}{X:Value}(an:VRep (wh false false) R X m){s:Int}{x:(List Int)}{q:Value}(H:VRep (tSl false (zq .i64)) R q x){r:(List Int)×Int}(C:z6e N m s x=some r):CallP prog 90 #[X,(vi s),q] R (fun v R'=> ∃ u0,v= .tuple #[u0,(vi r.2)]∧VRep (tSl true (zq .i64)) R' u0 r.1):=by
 refine qi (args:=[X,(vi s),q]) func90 rfl rfl fun A=>?_;rw [z6e] at C;refine zm (um (T:=(wh false false)) rfl rfl rfl an fun v1 R3 P h5 h2=>?_);refine zk vs0 (zk (vi 0) (qy (zg q (zy (qx rfl underlying40 rfl (jg (H.mono P))) ?_))));obtain⟨Q,C⟩:=ze C
 refine zf8 (T:=(zq .i64)) (m:=(↑x.length:Int).toNat) (c:=(↑x.length:Int).toNat) rfl underlying40 zo3 (zi rfl Q.1) (zi rfl Q.1) (Nat.le_refl _) (zh1 Q) (zhk Q) fun y f7 ac h9=>?_;refine zk y (z8 ?_);obtain⟨t,a,C⟩:=zt C
 refine qj (γ:=(Int×List Int)×Frag) (rs [1,2,9,12,15,41]) (fun g=>[(1,(vi g.1.1))]) (fun g=>[g.2]++A) (fun g R=>t=g.1∧ORep (zq .i64) R g.2 y g.1.2∧capOf y=g.1.2.length∧True) ?_ ?_
 refine zm (zg q (zy (qx rfl underlying40 rfl (jg (H.mono P))) (zg (vi 0) (z8 (q9 (j3 (γ:=Nat×Int×Int×(List Int)×Frag) (rs [1,2,9,12,17,41]) (fun g=>[(1,(vi g.2.1)),(17,(vi g.2.2.1))]) (fun g=>[g.2.2.2.2]++A) (fun g R=>z0r N m x g.1 g.2.1 g.2.2.1 g.2.2.2.1=some t∧ORep (zq .i64) R g.2.2.2.2 y g.2.2.2.1∧capOf y=g.2.2.2.1.length∧True) (fun g=>g.1) (N,s,0,(mk (↑x.length:Int) (0:Int)),f7) prm ⟨a,h9,(ac.trans List.length_replicate.symm),trivial⟩ ?_))))))
 clear a;rintro⟨S,n,b,E,Y⟩ aY aZ I ⟨a,Z,W,_⟩;rcases S with _|S;exact ql a;replace a:z0r N m x (S+1) n b E=some t:=a;rw [z0r] at a;refine zm (zy (j5 rfl rfl) (z8 (zz (zx rfl a (fun a=>?_) (fun a=>?_)))))
 refine qb (zz (q9 (zm (zg (vi b) ?_))));obtain⟨ad,a⟩:=ze a;refine uf (i:=b.toNat) rfl z1d rfl (jg (H.mono (P.trans I))) (zi rfl ad.1) (zw ad) fun a0 ao=>?_;refine qp rfl ty3 rfl ao fun a1 ap=>?_;obtain rfl:=q8.1 ap;refine zk (vi b) (zk (vi (ix x b)) (qy ?_))
 obtain⟨U,aq,a⟩:=zt a;refine jc rfl zt3 rfl (zaq  aq) fun a2 a3 z ar=>?_;obtain rfl:=ar;refine yx rfl zkf fun F=>?_;refine kw (i:=0) (vs:=[(vi U.to),(vi U.out)]) zck rfl rfl rfl rfl rfl rfl (qg rfl (qg rfl ug)) ?_;refine z8 ?_;obtain⟨d,o,a⟩:=zt a
 refine qj (γ:=(Int×Int)) (rs [23,33]) (fun g=>[]) (fun g=>[Y,box F [(vi g.1),(vi g.2)] 76]++A) (fun g R=>d=g∧True) ?_ ?_;refine zm (zg (vi n) (zy (vv rfl rfl) (z8 (zx rfl o (fun o=>?_) (fun o=>?_)))));refine zu (kv rfl o8 ah rfl (h2.mono (I.trans z)) fun a4 au=>?_)
 refine qp rfl z7s rfl au fun a5 av=>?_;refine zg (vi n) ?_;obtain⟨ae,o⟩:=ze o;refine uf (i:=n.toNat) rfl zdt rfl (jg av) (zi rfl ae.1) (zw ae) fun a6 aw=>?_;refine qp rfl zd0 rfl aw fun a7 ax=>?_;refine zg (vi (ix x b)) ?_;obtain⟨af,o⟩:=ze o
 refine uf (i:=(ix x b).toNat) rfl zgp rfl (jg ax) (zi rfl af.1) (zw af) fun a8 ay=>?_;refine qp rfl zgw rfl ay fun a9 az=>?_;obtain rfl:=z1s.1 az
 refine kw (i:=0) (vs:=[(vi ((ix (ix m.rows n) (ix x b)).to)),(vi ((ix (ix m.rows n) (ix x b)).out))]) zck rfl rfl rfl rfl rfl rfl (qg rfl (qg rfl ug)) ?_;refine z8 ?_
 exact⟨dkt,(RH.le.refl _),je,((ix (ix m.rows n) (ix x b)).to,(ix (ix m.rows n) (ix x b)).out),trivial,⟨[],(pk 1 rfl (pk 0 rfl (List.Perm.refl _)))⟩,(Option.some.inj o).symm,trivial⟩;refine qb ?_;exact⟨dkt,(RH.le.refl _),je,(U.to,U.out),trivial,⟨[],(pk 1 rfl (pk 0 rfl (List.Perm.refl _)))⟩,(Option.some.inj o).symm,trivial⟩
 rintro d ba bb K ⟨rfl,_⟩;obtain⟨aa,a⟩:=ze a
 refine z0i [7] [(fun es=>phX y),(fun es=>phX (vi b)),(fun es=>phX (.pointer (some ⟨F,1,none⟩))),(fun es=>phX (vi d.2)),(fun es=>phX (.pointer (some ⟨F,0,none⟩))),(fun es=>phX (vi d.1)),(fun es=>(fun u _=>yc (zq .i64) y E u b.toNat)),(fun es=>(fun _ _=>True)),(fun es=>phX (vi d.1))] (fun fl es R O=>(fl=[false]∧O.Perm ([Y,box F [(vi d.1),(vi d.2)] 76]++A)∧True)∨(fl=[true]∧ ∃ (fAi:Frag),O.Perm ([fAi,box F [(vi d.1),(vi d.2)] 76]++A)∧ORep (zq .i64) R fAi y (up E b d.2)∧True)) mixed (by kernel_rfl) ⟨(zl zf),(zl zf),(zl zf),(zl zf),(zl zf),(zl zf),(zl (fun _ _ _ _ h=>h)),(fun _ _ _ _ _ h=>h),(zl zf),trivial⟩ (by rintro fl es R R' O k (⟨rfl,w,_⟩|⟨rfl,fAi,w,p,_⟩);exact(.inl ⟨rfl,w,trivial⟩);exact(.inr ⟨rfl,fAi,w,(p.mono k),trivial⟩)) ⟨(fun _ _ _ _ _ h=>h),(fun _ _ _ _ _ h=>h),(fun _ _ _ _ _ h=>h),(fun _ _ _ _ _ h=>h),(fun _ _ _ _ _ h=>h),(fun _ _ _ _ _ h=>h),(fun _ _ _ _ _ h=>h),(fun _ _ _ _ _ h=>h),(fun _ _ _ _ _ h=>h),trivial⟩ (fun es=> .inl ⟨rfl,(List.Perm.refl _),trivial⟩) ⟨?_,?_,?_,?_,?_,?_,?_,?_,?_,trivial⟩ fun aA ag=>?_
 intro l bc fl O k G B V L;exact zh (za (G 8 rfl));intro l be fl O k G B V L;exact zh (za (G 9 rfl));intro l bf fl O k G B V L;exact zh (kg zaf (G 11 rfl));intro l bg fl O k G B V L;obtain⟨M,_⟩:=B;rcases L with⟨rfl,w,_⟩|⟨rfl,fAi,w,p,_⟩;exact ky w (zh (jk (i:=1) ag3 (M rfl) rfl rfl))
 exact kz V (by kernel_rfl);intro l bh fl O k G B V L;obtain⟨M,_⟩:=B;exact zh (kg z7x (G 11 rfl));intro l bi fl O k G B V L;obtain⟨M,d1,_⟩:=B;rcases L with⟨rfl,w,_⟩|⟨rfl,fAi,w,p,_⟩;exact ky w (zh (jk (i:=1) ag3 (M rfl) rfl rfl));exact ky w (zh (jk (i:=1) ag3 (M rfl) rfl rfl))
 intro l bj fl O k G B V L;obtain⟨M,d1,d2,d3,d4,d5,d6,d7,_⟩:=B;exact qw (i:=b.toNat) z1d (M rfl) ((Z.mono (z.trans K)).mono k) (zi (d1 rfl) aa.1) (zw aa);intro l bk fl O k G B V hf L;obtain⟨M,d1,d2,d3,d4,d5,d6,d7,_⟩:=B;rcases L with⟨rfl,w,_⟩|⟨rfl,fAi,w,p,_⟩;refine jo w ?_
 refine Eff.mono (ui (i:=b.toNat) (j:=0) ty3 ((Z.mono (z.trans K)).mono k) rfl rfl (M rfl) (zw aa) (d1 rfl) (q8.2 rfl)) ?_;rintro v R' O' hle' ⟨rfl,f,rfl,ho⟩;exact⟨trivial,.inr ⟨rfl,f,(List.Perm.refl _),ho,trivial⟩⟩;cases hf;intro l bn fl O k G B V L;obtain⟨M,d1,d2,d3,d4,d5,d6,d7,d8,d9,_⟩:=B;exact zh (p8 (M rfl))
 intro bo bp bq br bs bt bu bv aB aC aD aE aF aG bw aH;rintro aU (⟨e,_⟩|⟨_,aj,w,ab,_⟩);cases e;refine⟨[],_,w,?_⟩;replace ab:ORep (zq .i64) aA aj y (up E b d.2):=ab;obtain rfl:=Eq.symm aB;obtain rfl:=Eq.symm aC;obtain rfl:=Eq.symm aD;obtain rfl:=Eq.symm aE;obtain rfl:=Eq.symm aF;obtain rfl:=Eq.symm aG;obtain rfl:=Eq.symm aH
 refine z8 (zu ?_);obtain⟨aI,a⟩:=ze a;refine zy (qo rfl rfl aI) (zg (vi (b+1)) (z8 ?_))
 exact⟨dkt,((z.trans K).trans ag),je,(S,d.1,b+1,(up E b d.2),aj),Nat.lt_succ_self _,⟨rfl,rfl,trivial⟩,⟨[box F [(vi d.1),(vi d.2)] 76],(pk 1 rfl (pk 0 rfl (List.Perm.refl _)))⟩,a,ab,(W.trans List.length_set.symm),trivial⟩;refine jd ?_
 exact⟨dkt,I,je,((n,E),Y),⟨rfl,trivial⟩,prm,(Option.some.inj a).symm,Z,W,trivial⟩;rintro⟨t,bx⟩ bz bA ak ⟨rfl,aJ,al,_⟩;refine zm (zg y (zg (vi t.1) (zk y (zk (vi t.1) (z8 (lc (i:=0) rfl aJ fun aK am aL=>?_))))));have aM:VRep (tSl true (zq .i64)) aK y t.2:=(z0q aL al);refine qh ?_
 obtain rfl:=Option.some.inj C;refine qd (D:=[]) (J:=[]) (rs:=[.tmp 6,.tmp 7]) (vs:=[y,(vi t.1)]) ((P.trans ak).trans am) rfl rfl ⟨rfl,rfl,trivial⟩ ?_;exact⟨rfl,⟨y,rfl,aM⟩⟩
theorem zva:Enters prog 90:=enters_of func90 rfl (by kernel_rfl)
theorem zbi{N:Nat}{R:RH}{m:Mach}{j:Value}(g:VRep (wh false false) R j m){s:Int}{y:(List Int)}{e:Value}(i:VRep (tSl false (zq .i64)) R e y){r:(List Int)×Int}(a:z3i N m s y=some r):CallP prog 73 #[j,(vi s),e] R (fun v R'=> ∃ z,v= .tuple #[z,(vi r.2)]∧VRep (tSl true (zq .i64)) R' z r.1):=by
 refine qi (args:=[j,(vi s),e]) func73 rfl rfl fun A=>?_;rw [z3i] at a;refine zm (um (T:=(wh false false)) rfl rfl rfl g fun P Q d B C=>?_);refine zk vs0 (zk (vi 0) (z8 (zz (zm (zy (ku z8z rfl rfl B (g.mono d)) (zg (vi s) ?_))))));obtain⟨k,E,a⟩:=zt a
 refine jc rfl zvm rfl (ze7 (g.mono d) E) fun S F b G=>?_;obtain rfl:=G;refine zk (vi k) (qy (zg (vi k) (zy (vv rfl rfl) (z8 (zx rfl a (fun a=>?_) (fun a=>?_))))));refine zm (zg (vi k) (zk vs0 (zk (vi k) (z8 (qh ?_)))));obtain rfl:=Option.some.inj a
 refine qd (D:=[]) (J:=[]) (rs:=[.tmp 6,.tmp 7]) (vs:=[vs0,(vi k)]) (d.trans b) rfl rfl ⟨rfl,rfl,trivial⟩ ?_;exact⟨rfl,⟨vs0,rfl,z2w⟩⟩;refine qb (zz (zm (zg e (kv rfl z4p z3o rfl (C.mono b) fun H o=>?_))));refine qp rfl ty3 rfl o fun I p=>?_;obtain rfl:=q8.1 p
 obtain⟨h,q,a⟩:=zt a;refine jc rfl zu8 rfl (zco (i.mono (d.trans b)) q) fun K L c t=>?_;obtain rfl:=t;refine zk (vi h) (qy (zg (vi h) (zy (vv rfl rfl) (z8 (zx rfl a (fun a=>?_) (fun a=>?_))))))
 refine zm (zg (vi h) (zk vs0 (zk (vi h) (z8 (qh ?_)))));obtain rfl:=Option.some.inj a;refine qd (D:=[]) (J:=[]) (rs:=[.tmp 6,.tmp 7]) (vs:=[vs0,(vi h)]) ((d.trans b).trans c) rfl rfl ⟨rfl,rfl,trivial⟩ ?_;exact⟨rfl,⟨vs0,rfl,z2w⟩⟩
 refine qb (zm (zy (ku z8z rfl rfl (B.mono (b.trans c)) (g.mono ((d.trans b).trans c))) (zg (vi s) (zg e ?_))));obtain⟨l,u,a⟩:=zt a;refine jc rfl zva rfl (zfa (g.mono ((d.trans b).trans c)) (i.mono ((d.trans b).trans c)) u) fun M O n w=>?_;obtain⟨f,rfl,x⟩:=w
 refine zg (.tuple #[f,(vi l.2)]) (zy (jf rfl rfl) (zy (jf rfl rfl) (zk f (zk (vi l.2) (qy (zg f (zk f (zk (vi 0) (z8 (qh ?_))))))))));obtain rfl:=Option.some.inj a
 refine qd (D:=[]) (J:=[]) (rs:=[.tmp 6,.tmp 7]) (vs:=[f,(vi 0)]) (((d.trans b).trans c).trans n) rfl rfl ⟨rfl,rfl,trivial⟩ ?_;exact⟨rfl,⟨f,rfl,x⟩⟩
theorem zug:Enters prog 73:=enters_of func73 rfl (by kernel_rfl)
theorem zf1{N:Nat}{R:RH}{m:Mach}{w:Value}(x:VRep (wh false false) R w m){other:Mach}{d:Value}(e:VRep (wh false false) R d other){S:(List Int)}{k:Value}(t:VRep (tSl false (zq .i64)) R k S){r:Int}(b:z4q N m other S=some r):CallP prog 36 #[w,d,k] R (fun v R'=>v=(vi r)):=by
 refine qi (args:=[w,d,k]) func36 rfl rfl fun A=>?_;rw [z4q] at b;refine zm (um (T:=(wh false false)) rfl rfl rfl x fun v1 R3 h U h2=>?_);refine um (T:=(wh false false)) rfl rfl rfl (e.mono h) fun v6 R8 j G h7=>?_
 refine zk (vi 0) (qy (zy (ku z8z rfl rfl (U.mono j) (x.mono (h.trans j))) (zg k ?_)));obtain⟨o,H,b⟩:=zt b;refine jc rfl zug rfl (zbi (x.mono (h.trans j)) (t.mono (h.trans j)) H) fun V W f I=>?_;obtain⟨p,rfl,B⟩:=I
 refine zg (.tuple #[p,(vi o.2)]) (zy (jf rfl rfl) (zy (jf rfl rfl) (zk p (zk (vi o.2) (qy (zy (ku z8z rfl rfl (G.mono f) (e.mono ((h.trans j).trans f))) (zg k ?_)))))));obtain⟨q,K,b⟩:=zt b
 refine jc rfl zug rfl (zbi (e.mono ((h.trans j).trans f)) (t.mono ((h.trans j).trans f)) K) fun X Y l L=>?_;obtain⟨y,rfl,M⟩:=L;refine zg (.tuple #[y,(vi q.2)]) (zy (jf rfl rfl) (zy (jf rfl rfl) (zk y (zk (vi q.2) (z8 ?_)))));obtain⟨z,a,b⟩:=zt b
 refine qj (γ:=Unit) (rs [6,7,11,12,24,40]) (fun g=>[]) (fun g=>[]++A) (fun g R=>z=Ex.go g∧True) ?_ ?_
 refine zm (zg p (zy (qx rfl underlying40 rfl (jg (B.mono l))) (zg (vi 0) (z8 (q9 (j3 (γ:=Nat×Int) (rs [6,7,11,12,26,40]) (fun g=>[(26,(vi g.2))]) (fun g=>[]++A) (fun g R=>ai N o q g.1 g.2=some z∧True) (fun g=>g.1) (N,0) prm ⟨a,trivial⟩ ?_))))));clear a
 rintro⟨s,c⟩ Z aa n ⟨a,_⟩;rcases s with _|s;exact ql a;replace a:ai N o q (s+1) c=some z:=a;rw [ai] at a;refine zm (zy (j5 rfl rfl) (z8 (zz (zx rfl a (fun a=>?_) (fun a=>?_)))))
 refine qb (zz (q9 (zm (zg (vi c) (zk (vi c) (z8 (zz (z6h 9 mixed (by kernel_rfl) (by kernel_rfl) ?_))))))));refine ng (v:=p) (za rfl) ?_;refine ng (v:=(vi c)) (za rfl) ?_;obtain⟨C,a⟩:=ze a
 refine zah (z0y (i:=c.toNat) z1d rfl (jg (B.mono (l.trans n))) (zi rfl C.1) (zw C)) fun ab O=>?_;refine ng (tq (u7 ty3 rfl O)) ?_;refine ng (v:=y) (za rfl) ?_;refine ng (v:=(vi c)) (za rfl) ?_;obtain⟨E,a⟩:=ze a
 refine zah (z0y (i:=c.toNat) z1d rfl (jg (M.mono n)) (zi rfl E.1) (zw E)) fun ac P=>?_;refine ng (tq (u7 ty3 rfl P)) ?_;refine ng (vv rfl rfl) ?_;intro ad u;refine z8 (zx rfl a (fun a=>?_) (fun a=>?_));refine zm (zg (vi c) (zk (vi c) (z8 (qh ?_))));replace b:=z16 a b
 obtain rfl:=Option.some.inj b;refine qd (D:=[]) (J:=[]) (rs:=[.tmp 6]) (vs:=[(vi c)]) (((((h.trans j).trans f).trans l).trans n).trans u) rfl rfl ⟨rfl,trivial⟩ ?_;exact⟨rfl,rfl⟩;refine qb (zu ?_);obtain⟨Q,a⟩:=ze a;refine zy (qo rfl rfl Q) (zg (vi (c+1)) (z8 ?_))
 exact⟨dkt,u,je,(s,c+1),Nat.lt_succ_self _,⟨rfl,trivial⟩,prm,a,trivial⟩;refine jd ?_;exact⟨dkt,n,je,(),trivial,prm,(Option.some.inj a).symm,trivial⟩;rintro ae af ag F ⟨rfl,_⟩;replace b:=z2m b;refine zm (zk (vi (-1)) (z8 (qh ?_)));obtain rfl:=Option.some.inj b
 refine qd (D:=[]) (J:=[]) (rs:=[.tmp 6]) (vs:=[(vi (-1))]) ((((h.trans j).trans f).trans l).trans F) rfl rfl ⟨rfl,trivial⟩ ?_;exact⟨rfl,rfl⟩
end GV
end Go.Proofs.YtkhihcleegljhaaGreat
