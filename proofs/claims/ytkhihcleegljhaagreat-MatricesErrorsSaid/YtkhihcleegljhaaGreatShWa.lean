import Derived.Test.YtkhihcleegljhaaGreatShPlain
import Derived.Test.YtkhihcleegljhaaGreatRows
set_option linter.unusedVariables false
set_option linter.unusedSimpArgs false
namespace Go.Proofs.YtkhihcleegljhaaGreat
namespace GV
open _root_.Go.Proofs.Tryz
open Go.IntWalk
set_option maxRecDepth 100000
set_option maxHeartbeats 20000000
theorem zit: ∀ w,∃ z,(zeroValue 36).run prog w= .ok z w∧z.cells=([.int .i64 0,.int .i64 0,.slice none 0 0]:List Value).toArray:=fun w=>⟨(.agg #[(vi 0),(vi 0),vs0]),by kernel_rfl,rfl⟩
theorem zc5: ∀ w,(sizeOf 36).run prog w= .ok 3 w:=fun w=>by kernel_rfl
theorem z3v:FieldOk prog 36 0 0:=by
 obtain⟨i,hi,a⟩: ∃ i,prog.info? 3=some i∧i.size=1:=oz (by kernel_rfl);exact z4m underlying36 rfl rfl hi (by rw [a];rfl)
theorem ag3: ∀ w,(isAgg 3).run prog w= .ok false w:=fun w=>by kernel_rfl
theorem ty4:TyOk prog 4 z3z:=by
 obtain⟨i,hi,a⟩: ∃ i,prog.info? 4=some i∧i.size=1:=oz (by kernel_rfl);exact z2w underlying4 hi rfl a
theorem zg6:ZeroOk prog 76 kEdge (⟨(0:Int),(0:Int)⟩:Edge) 16:=by
 obtain⟨i,zv,hi,a,c,d,f⟩:=z3f (P:=prog) (e:=76) (zv:=(.agg #[(vi 0),(vi 0)])) (k:=2) (b:=16) (by kernel_rfl);exact⟨i,zv,hi,a,c,d,fun R=>by subst f;exact⟨_,_,rfl,rfl,rfl⟩⟩
theorem zbi:FieldOk prog 36 1 1:=by
 obtain⟨i,hi,a⟩: ∃ i,prog.info? 3=some i∧i.size=1:=oz (by kernel_rfl);exact z4m underlying36 rfl rfl hi (by rw [a];rfl)
theorem mixed:prog.follows .mixedOrders=true:=by kernel_rfl
theorem z2j:FieldOk prog 36 2 2:=by
 obtain⟨i,hi,a⟩: ∃ i,prog.info? 34=some i∧i.size=1:=oz (by kernel_rfl);exact z4m underlying36 rfl rfl hi (by rw [a];rfl)
theorem zlt{a:Bool}:ZeroOk prog 73 (tSl a kEdge) ([]:List Edge) 24:=by
 obtain⟨i,zv,hi,c,d,f,g⟩:=z3f (P:=prog) (e:=73) (zv:=vs0) (k:=1) (b:=24) (by kernel_rfl);exact⟨i,zv,hi,c,d,f,fun R=>by subst g;exact(jr rfl z1c)⟩
theorem ziy: ∀ w,(isAgg 36).run prog w= .ok true w:=fun w=>by kernel_rfl
theorem zo3:ZeroOk prog 3 (zu .i64) (0:Int) 8:=by
 obtain⟨i,zv,hi,a,c,d,f⟩:=z3f (P:=prog) (e:=3) (zv:=(vi 0)) (k:=1) (b:=8) (by kernel_rfl);exact⟨i,zv,hi,a,c,d,fun R=>by subst f;exact rfl⟩
theorem zg9{a:Bool}:ZeroOk prog 40 (tSl a (zu .i64)) ([]:List Int) 24:=by
 obtain⟨i,zv,hi,c,d,f,g⟩:=z3f (P:=prog) (e:=40) (zv:=vs0) (k:=1) (b:=24) (by kernel_rfl);exact⟨i,zv,hi,c,d,f,fun R=>by subst g;exact(jr rfl z1c)⟩
theorem z7e{a:Bool}:TyOk prog 40 (tSl a (zu .i64)):=by
 obtain⟨i,hi,b⟩: ∃ i,prog.info? 40=some i∧i.size=1:=oz (by kernel_rfl);exact z2w underlying40 hi rfl b
theorem z7o{a:Bool}:SlOk prog 38 40 (tSl a (zu .i64)):=⟨underlying38,z7e⟩
theorem ty3:TyOk prog 3 (zu .i64):=by
 obtain⟨i,hi,a⟩: ∃ i,prog.info? 3=some i∧i.size=1:=oz (by kernel_rfl);exact z2w underlying3 hi rfl a
theorem z00:SlOk prog 40 3 (zu .i64):=⟨underlying40,ty3⟩
theorem z3g{N:Nat}{R:RH}{a:(List Int)}{f:Value}(l:VRep (tSl false (zu .i64)) R f a){b:(List Int)}{j:Value}(m:VRep (tSl false (zu .i64)) R j b){r:Int}(d:aa N a b=some r):CallP prog 65 #[f,j] R (fun v R'=>v=(vi r)):=by
 refine qg (args:=[f,j]) func65 rfl rfl fun A=>?_;rw [aa] at d;refine zl (zh (vi 0) (z8 (zt (zl (zb f (zz (qi rfl underlying40 rfl (jf l)) (zb j (zz (qi rfl underlying40 rfl (jf m)) (zz (u6 rfl rfl) (z8 (zq rfl d (fun d=>?_) (fun d=>?_))))))))))))
 refine zt (zl (zb f (zz (qi rfl underlying40 rfl (jf l)) (zb j (zz (qi rfl underlying40 rfl (jf m)) (zz (j4 rfl rfl) (z8 (zq rfl d (fun d=>?_) (fun d=>?_)))))))));refine zl (zh (vi (-1)) (z8 (qf ?_)));obtain rfl:=Option.some.inj d
 refine qb (D:=[]) (J:=[]) (rs:=[.tmp 4]) (vs:=[(vi (-1))]) (RH.le.refl _) rfl rfl ⟨rfl,trivial⟩ ?_;exact⟨rfl,rfl⟩;refine q8 (zl (zh (vi 1) (z8 (qf ?_))));obtain rfl:=Option.some.inj d;refine qb (D:=[]) (J:=[]) (rs:=[.tmp 4]) (vs:=[(vi 1)]) (RH.le.refl _) rfl rfl ⟨rfl,trivial⟩ ?_;exact⟨rfl,rfl⟩;refine q8 ?_
 obtain⟨u,c,d⟩:=zn d;refine qm (γ:=Unit) (rs [4,6,16,40]) (fun g=>[]) (fun g=>[]++A) (fun g R=>u=Ex.go g∧True) ?_ ?_
 refine zl (zh (vi 0) (z8 (qc (qx (γ:=Nat×Int) (rs [4,6,16,40]) (fun g=>[(5,(vi g.2))]) (fun g=>[]++A) (fun g R=>uz N a b g.1 g.2=some u∧True) (fun g=>g.1) (N,0) prm ⟨c,trivial⟩ ?_))));clear c;rintro⟨t,k⟩ E O e ⟨c,_⟩;rcases t with _|t;exact qj c
 replace c:uz N a b (t+1) k=some u:=c;rw [uz] at c;refine zt (zl (zb (vi k) (zb f (zz (qi rfl underlying40 rfl (jf (l.mono e))) (zz (j4 rfl rfl) (z8 (zq rfl c (fun c=>?_) (fun c=>?_))))))))
 refine q8 (zt (qc (zt (zt (z3r 9 mixed (by kernel_rfl) (by kernel_rfl) ?_)))));refine pg (v:=f) (za rfl) ?_;refine pg (v:=(vi k)) (za rfl) ?_;obtain⟨o,c⟩:=ze c;refine z7y (rz (i:=k.toNat) z00 rfl (jf (l.mono e)) (zi rfl o.1) (zx o)) fun F w=>?_
 refine pg (ib (uj ty3 rfl w)) ?_;refine pg (v:=j) (za rfl) ?_;refine pg (v:=(vi k)) (za rfl) ?_;obtain⟨p,c⟩:=ze c;refine z7y (rz (i:=k.toNat) z00 rfl (jf (m.mono e)) (zi rfl p.1) (zx p)) fun G x=>?_;refine pg (ib (uj ty3 rfl x)) ?_;refine pg (j4 rfl rfl) ?_;intro H h
 refine z8 (zq rfl c (fun c=>?_) (fun c=>?_));refine zl (zh (vi (-1)) (z8 (qf ?_)));replace d:=mg c d;obtain rfl:=Option.some.inj d;refine qb (D:=[]) (J:=[]) (rs:=[.tmp 4]) (vs:=[(vi (-1))]) (e.trans h) rfl rfl ⟨rfl,trivial⟩ ?_;exact⟨rfl,rfl⟩
 refine q8 (zt (z3r 9 mixed (by kernel_rfl) (by kernel_rfl) ?_));refine pg (v:=f) (za rfl) ?_;refine pg (v:=(vi k)) (za rfl) ?_;obtain⟨q,c⟩:=ze c;refine z7y (rz (i:=k.toNat) z00 rfl (jf (l.mono (e.trans h))) (zi rfl q.1) (zx q)) fun I y=>?_;refine pg (ib (uj ty3 rfl y)) ?_
 refine pg (v:=j) (za rfl) ?_;refine pg (v:=(vi k)) (za rfl) ?_;obtain⟨s,c⟩:=ze c;refine z7y (rz (i:=k.toNat) z00 rfl (jf (m.mono (e.trans h))) (zi rfl s.1) (zx s)) fun K z=>?_;refine pg (ib (uj ty3 rfl z)) ?_;refine pg (vz rfl rfl) ?_;intro L n
 refine z8 (zq rfl c (fun c=>?_) (fun c=>?_));refine zl (zh (vi 1) (z8 (qf ?_)));replace d:=mg c d;obtain rfl:=Option.some.inj d;refine qb (D:=[]) (J:=[]) (rs:=[.tmp 4]) (vs:=[(vi 1)]) ((e.trans h).trans n) rfl rfl ⟨rfl,trivial⟩ ?_;exact⟨rfl,rfl⟩;refine q8 (zy (zb (vi k) ?_))
 obtain⟨B,c⟩:=ze c;refine zz (qp rfl rfl B) (zh (vi (k+1)) (z8 ?_));exact⟨dkt,(h.trans n),jd,(t,k+1),Nat.lt_succ_self _,⟨rfl,trivial⟩,prm,c,trivial⟩;refine jc ?_;exact⟨dkt,e,jd,(),trivial,prm,(Option.some.inj c).symm,trivial⟩;rintro P M Q C ⟨rfl,_⟩;replace d:=ll d
 refine zl (zh (vi 0) (z8 (qf ?_)));obtain rfl:=Option.some.inj d;refine qb (D:=[]) (J:=[]) (rs:=[.tmp 4]) (vs:=[(vi 0)]) C rfl rfl ⟨rfl,trivial⟩ ?_;exact⟨rfl,rfl⟩
theorem zo9:Enters prog 65:=enters_of func65 rfl (by kernel_rfl)
theorem z6e{a b:Bool}:TyOk prog 36 (bg a b):=by
 obtain⟨i,hi,c⟩: ∃ i,prog.info? 36=some i∧i.size=3:=oz (by kernel_rfl);exact z2w underlying36 hi rfl c
theorem z9r{a b:Bool}:TyOk prog 34 (tSl a (tSl b kEdge)):=by
 obtain⟨i,hi,c⟩: ∃ i,prog.info? 34=some i∧i.size=1:=oz (by kernel_rfl);exact z2w underlying34 hi rfl c
theorem zhf{a:Bool}:TyOk prog 73 (tSl a kEdge):=by
 obtain⟨i,hi,b⟩: ∃ i,prog.info? 73=some i∧i.size=1:=oz (by kernel_rfl);exact z2w underlying73 hi rfl b
theorem zio{a:Bool}:SlOk prog 34 73 (tSl a kEdge):=⟨underlying34,zhf⟩
theorem zgq:TyOk prog 76 kEdge:=by
 obtain⟨i,hi,a⟩: ∃ i,prog.info? 76=some i∧i.size=2:=oz (by kernel_rfl);exact z2w underlying76 hi rfl a
theorem zlp:SlOk prog 73 76 kEdge:=⟨underlying73,zgq⟩
theorem zac:FieldOk prog 76 0 0:=by
 obtain⟨i,hi,a⟩: ∃ i,prog.info? 3=some i∧i.size=1:=oz (by kernel_rfl);exact z4m underlying76 rfl rfl hi (by rw [a];rfl)
theorem zjx: ∀ w,∃ z,(zeroValue 76).run prog w= .ok z w∧z.cells=([.int .i64 0,.int .i64 0]:List Value).toArray:=fun w=>⟨(.agg #[(vi 0),(vi 0)]),by kernel_rfl,rfl⟩
theorem zdh: ∀ w,(sizeOf 76).run prog w= .ok 2 w:=fun w=>by kernel_rfl
theorem za7:FieldOk prog 76 1 1:=by
 obtain⟨i,hi,a⟩: ∃ i,prog.info? 3=some i∧i.size=1:=oz (by kernel_rfl);exact z4m underlying76 rfl rfl hi (by rw [a];rfl)
theorem sz3: ∀ w,(sizeOf 3).run prog w= .ok 1 w:=fun w=>by kernel_rfl
theorem zn6: ∀ w,(isAgg 76).run prog w= .ok true w:=fun w=>by kernel_rfl
theorem zq5{a c:Bool}:ZeroOk prog 36 (bg a c) (⟨(0:Int),(0:Int),([]:List (List Edge))⟩:Mach) 40:=by
 obtain⟨i,zv,hi,d,f,g,h⟩:=z3f (P:=prog) (e:=36) (zv:=(.agg #[(vi 0),(vi 0),vs0])) (k:=3) (b:=40) (by kernel_rfl);exact⟨i,zv,hi,d,f,g,fun R=>by subst h;exact⟨_,_,rfl,rfl,⟨_,_,rfl,rfl,(jr rfl z1c)⟩⟩⟩
theorem zfj: ∀ w,∃ z,(zeroValue 46).run prog w= .ok z w∧z.cells=([.slice none 0 0]:List Value).toArray:=fun w=>⟨(.agg #[vs0]),by kernel_rfl,rfl⟩
theorem z5q{N:Nat}{R:RH}{s:(List Edge)}{c:Value}(k:VRep (tSl false kEdge) R c s){f:Edge→Option Bool}{e:Value}(n:FOk1 prog R e kEdge z3z f){r:Int}(b:oo N s f=some r):CallP prog 85 #[c,e] R (fun v R'=>v=(vi r)):=by
 refine qg (args:=[c,e]) func85 rfl rfl fun A=>?_;rw [oo] at b;refine zl (zh (vi 0) (z8 ?_));obtain⟨o,a,b⟩:=zn b;refine qm (γ:=Unit) (rs [4,19]) (fun g=>[]) (fun g=>[]++A) (fun g R=>o=Ex.go g∧True) ?_ ?_
 refine zl (zb c (zz (qi rfl underlying73 rfl (jf k)) (zb (vi 0) (z8 (qc (qx (γ:=Nat×Int) (rs [4,6,8,19]) (fun g=>[(8,(vi g.2))]) (fun g=>[]++A) (fun g R=>ky N s f g.1 g.2=some o∧True) (fun g=>g.1) (N,0) prm ⟨a,trivial⟩ ?_))))));clear a;rintro⟨m,d⟩ y H h ⟨a,_⟩
 rcases m with _|m;exact qj a;replace a:ky N s f (m+1) d=some o:=a;rw [ky] at a;refine zl (zz (j4 rfl rfl) (z8 (zt (zq rfl a (fun a=>?_) (fun a=>?_)))))
 refine q8 (zt (qc (zl (zb (vi d) (zh (vi d) (qw (zb e (zb c (zb (vi d) ?_)))))))));obtain⟨l,a⟩:=ze a;refine jq (i:=d.toNat) rfl zlp rfl (jf (k.mono h)) (zi rfl l.1) (zx l) fun z p=>?_;refine j3 rfl zgq rfl p fun B q=>?_;obtain rfl:=z1o.1 q
 obtain⟨C,t,a⟩:=zn a;refine z7l rfl rfl rfl ((n.mono h) _ (RH.le.refl _) (ix s d) _ _ (z1o.2 rfl) t) fun E F j u=>?_;obtain rfl:=ik.1 u;refine z8 (zq rfl a (fun a=>?_) (fun a=>?_));refine zl (zb (vi d) (zh (vi d) (z8 (qf ?_))));replace b:=mg a b;obtain rfl:=Option.some.inj b
 refine qb (D:=[]) (J:=[]) (rs:=[.tmp 4]) (vs:=[(vi d)]) (h.trans j) rfl rfl ⟨rfl,trivial⟩ ?_;exact⟨rfl,rfl⟩;refine q8 (zy ?_);obtain⟨w,a⟩:=ze a;refine zz (qp rfl rfl w) (zb (vi (d+1)) (z8 ?_));exact⟨dkt,j,jd,(m,d+1),Nat.lt_succ_self _,⟨rfl,trivial⟩,prm,a,trivial⟩;refine jc ?_
 exact⟨dkt,h,jd,(),trivial,prm,(Option.some.inj a).symm,trivial⟩;rintro I G K x ⟨rfl,_⟩;replace b:=ll b;refine zl (zh (vi (-1)) (z8 (qf ?_)));obtain rfl:=Option.some.inj b;refine qb (D:=[]) (J:=[]) (rs:=[.tmp 4]) (vs:=[(vi (-1))]) x rfl rfl ⟨rfl,trivial⟩ ?_;exact⟨rfl,rfl⟩
theorem zpb:Enters prog 85:=enters_of func85 rfl (by kernel_rfl)
theorem z4l{N:Nat}{R:RH}{s:(List Edge)}{a:Value}(d:VRep (tSl false kEdge) R a s){f:Edge→Option Bool}{b:Value}(e:FOk1 prog R b kEdge z3z f){r:Bool}(c:di N s f=some r):CallP prog 67 #[a,b] R (fun v R'=>v=(.bool r)):=by
 refine qg (args:=[a,b]) func67 rfl rfl fun A=>?_;rw [di] at c;refine zl (zh (.bool false) (qw (zb a (zb b ?_))));obtain⟨h,i,c⟩:=zn c;refine qy rfl zpb rfl (z5q d e i) fun k l g j=>?_;obtain rfl:=j
 refine zz (dm rfl rfl) (zh (.bool (decide (0≤h))) (z8 (qf ?_)));obtain rfl:=Option.some.inj c;refine qb (D:=[]) (J:=[]) (rs:=[.tmp 4]) (vs:=[(.bool (decide (0≤h)))]) g rfl rfl ⟨rfl,trivial⟩ ?_;exact⟨rfl,rfl⟩
theorem zpp:Enters prog 67:=enters_of func67 rfl (by kernel_rfl)
theorem z8j{N:Nat}{R:RH}  {r:Edge} (a:z2t N  =some r):CallP prog 86 #[] R (fun v R'=>v=(z2o r)):=by
 refine qg (args:=[]) func86 rfl rfl fun A=>?_;rw [z2t] at a;refine zl (df rfl zjx fun b=>?_)
 refine qw (zz (cu (ps:=[(0,(vi (-1))),(1,(vi (-1)))]) (v:=(.agg #[(vi (-1)),(vi (-1))])) rfl (fun w=>by kernel_rfl)) (ut (i:=0) (vs:=[(vi (-1)),(vi (-1))]) zdh rfl rfl rfl rfl rfl rfl (ji rfl (ji rfl yo)) ?_));refine z8 (qf ?_);obtain rfl:=Option.some.inj a
 refine qb (D:=[]) (J:=[box b [(vi (-1)),(vi (-1))] 76]) (rs:=[.cell 0 76]) (vs:=[(.agg #[(vi (-1)),(vi (-1))])]) (RH.le.refl _) rfl rfl ⟨⟨_,rfl,fun w c=>z13 (i:=0) c rfl rfl zn6 zdh rfl rfl⟩,trivial⟩ ?_;exact⟨rfl,rfl⟩
theorem zo2:Enters prog 86:=enters_of func86 rfl (by kernel_rfl)
theorem zp1:zkh prog 76:=zel (f0:=((prog.fieldsOf 76).toList.getD 0 default)) (f1:=((prog.fieldsOf 76).toList.getD 1 default)) (by kernel_rfl) (by kernel_rfl) (by kernel_rfl) (by kernel_rfl) (by kernel_rfl) (by kernel_rfl) (by kernel_rfl) (by kernel_rfl) (by kernel_rfl) (by kernel_rfl)
theorem zc1{N:Nat}{R:RH}{m:Mach}{p:Value}(w:VRep (bg false false) R p m){x:Edge}{r:Bool}(n:z7b N m x=some r):CallP prog 69 #[p,(z2o x)] R (fun v R'=>v=(.bool r)):=by
 refine qg (args:=[p,(z2o x)]) func69 rfl rfl fun A=>?_;rw [z7b] at n;refine zl (wu (T:=(bg false false)) rfl rfl rfl w fun v1 R3 y h5 K=>?_);refine zah (T:=kEdge) rfl rfl (z1o.2 rfl) fun v6 R8 q t=>?_;refine zh (.bool false) (z8 (zt ?_));obtain⟨b,z,n⟩:=zn n
 let B:=((decide (x.to=b.to∧x.out=b.out))||((((decide (0≤x.to))&&(decide (x.to<(↑m.rows.length:Int))))&&(decide (0≤x.out)))&&(decide (x.out<m.outputs))));let L:=((((decide (0≤x.to))&&(decide (x.to<(↑m.rows.length:Int))))&&(decide (0≤x.out)))&&(decide (x.out<m.outputs)))
 let o:=(((decide (0≤x.to))&&(decide (x.to<(↑m.rows.length:Int))))&&(decide (0≤x.out)));let k:=((decide (0≤x.to))&&(decide (x.to<(↑m.rows.length:Int))));let e:=(true&&((decide (x.to=b.to∧x.out=b.out))==false))
 refine xz 29 [] [phX (z2o x),phX (z2o b),phX (.bool (decide (x.to=b.to∧x.out=b.out))),phX (.bool (decide (x.to=b.to∧x.out=b.out))),phG e (phP (zu .i64) x.to),phG e (phX (vi x.to)),phG e (phX (.bool (decide (0≤x.to)))),phG e (phX (.bool (decide (0≤x.to)))),phG (e&&((decide (0≤x.to))==true)) (phP (zu .i64) x.to),phG (e&&((decide (0≤x.to))==true)) (phX (vi x.to)),phG (e&&((decide (0≤x.to))==true)) (phP (tSl false (tSl false kEdge)) m.rows),phG (e&&((decide (0≤x.to))==true)) (phR (tSl false (tSl false kEdge)) m.rows),phG (e&&((decide (0≤x.to))==true)) (phX (vi (↑m.rows.length:Int))),phG (e&&((decide (0≤x.to))==true)) (phX (.bool (decide (x.to<(↑m.rows.length:Int))))),phG e (phX (.bool k)),phG e (phX (.bool k)),phG (e&&(k==true)) (phP (zu .i64) x.out),phG (e&&(k==true)) (phX (vi x.out)),phG (e&&(k==true)) (phX (.bool (decide (0≤x.out)))),phG e (phX (.bool o)),phG e (phX (.bool o)),phG (e&&(o==true)) (phP (zu .i64) x.out),phG (e&&(o==true)) (phX (vi x.out)),phG (e&&(o==true)) (phP (zu .i64) m.outputs),phG (e&&(o==true)) (phX (vi m.outputs)),phG (e&&(o==true)) (phX (.bool (decide (x.out<m.outputs)))),phG e (phX (.bool L)),phX (.bool B),phX (.bool B)] mixed (by kernel_rfl) (vw ⟨zg,zg,zg,zg,(ql z1y),(ql zg),(ql zg),(ql zg),(ql z1y),(ql zg),(ql z1y),(ql z1b),(ql zg),(ql zg),(ql zg),(ql zg),(ql z1y),(ql zg),(ql zg),(ql zg),(ql zg),(ql z1y),(ql zg),(ql z1y),(ql zg),(ql zg),(ql zg),zg,zg,trivial⟩) ⟨?_,?_,?_,?_,?_,?_,?_,?_,?_,?_,?_,?_,?_,?_,?_,?_,?_,?_,?_,?_,?_,?_,?_,?_,?_,?_,?_,?_,?_,trivial⟩ fun ai u=>?_
 intro l aj a g hd;exact zf rfl rfl rfl (jb (oh zgq (g 3 rfl) (t.mono a)) (fun _ _ h=>z1o.1 h));intro l al a g hd;exact zf rfl rfl rfl (kw (vs:=[]) zo2 rfl (z8j  z) (fun _ _ h=>h));rintro l am a g ⟨c,f,_⟩;exact zf rfl rfl rfl (zk (zk0 zp1 (c rfl) (f rfl)));rintro l an a g ⟨c,f,_⟩
 exact zf rfl rfl rfl (zk (za (c rfl)));rintro l ao a g ⟨c,_⟩;exact zw (Gj:=true) (Bj:=decide (x.to=b.to∧x.out=b.out)) rfl rfl rfl (jk (c rfl)) rfl (fun i d=>z5w zac zgh (g 3 rfl) (t.mono a));rintro l ap a g ⟨c,f,_⟩
 exact zw (Gj:=true) (Bj:=decide (x.to=b.to∧x.out=b.out)) rfl rfl rfl (jk (f rfl)) rfl (fun i d=>jb (oh ty3 rfl ((c rfl).1 (zo rfl d))) (fun _ _ h=>qd.1 h));rintro l aq a g ⟨c,f,_⟩
 exact zw (Gj:=true) (Bj:=decide (x.to=b.to∧x.out=b.out)) rfl rfl rfl (jk (f rfl)) rfl (fun i d=>zk (dm (show l 10=(vi x.to) from(c rfl).1 (zo rfl d)) rfl));rintro l ar a g ⟨c,f,j,_⟩
 exact zw (Gj:=true) (Bj:=decide (x.to=b.to∧x.out=b.out)) rfl rfl rfl (jk (f rfl)) rfl (fun i d=>zk (za (show l 11=(.bool (decide (0≤x.to))) from(c rfl).1 (zo rfl d))));rintro l au a g ⟨c,_⟩;exact zw (Gj:=e) (Bj:=decide (0≤x.to)) rfl rfl rfl (c rfl) rfl (fun i d=>z5w zac zgh (g 3 rfl) (t.mono a))
 rintro l av a g ⟨c,f,_⟩;exact zw (Gj:=e) (Bj:=decide (0≤x.to)) rfl rfl rfl (f rfl) rfl (fun i d=>jb (oh ty3 rfl ((c rfl).1 (zo i d))) (fun _ _ h=>qd.1 h));rintro l M a g ⟨c,_⟩;exact zw (Gj:=e) (Bj:=decide (0≤x.to)) rfl rfl rfl (c rfl) rfl (fun i d=>z5w z2j z0c (g 2 rfl) ((K.mono q).mono a))
 rintro l O a g ⟨c,f,_⟩;exact zw (Gj:=e) (Bj:=decide (0≤x.to)) rfl rfl rfl (f rfl) rfl (fun i d=>oh z9r rfl ((c rfl).1 (zo i d)));rintro l P a g ⟨c,f,_⟩;exact zw (Gj:=e) (Bj:=decide (0≤x.to)) rfl rfl rfl (f rfl) rfl (fun i d=>zk (qi rfl underlying34 rfl (jf ((c rfl).1 (zo i d)))))
 rintro l Q a g ⟨c,f,j,_⟩;exact zw (Gj:=e) (Bj:=decide (0≤x.to)) rfl rfl rfl (j rfl) rfl (fun i d=>zk (j4 (show l 14=(vi x.to) from(c rfl).1 (zo i d)) (show l 17=(vi (↑m.rows.length:Int)) from(f rfl).1 (zo i d))));rintro l S a g ⟨c,f,j,_⟩
 exact zw (Gj:=true) (Bj:=decide (x.to=b.to∧x.out=b.out)) rfl rfl rfl (jk (j rfl)) rfl (fun i d=>zk (pu (show l 12=(.bool (decide (0≤x.to))) from(c rfl).1 (zo rfl d)) (fun s=>(show l 18=(.bool (decide (x.to<(↑m.rows.length:Int)))) from(f rfl).1 (zo (zo rfl d) s))) rfl));rintro l U a g ⟨c,f,j,_⟩
 exact zw (Gj:=true) (Bj:=decide (x.to=b.to∧x.out=b.out)) rfl rfl rfl (jk (j rfl)) rfl (fun i d=>zk (za (show l 19=(.bool k) from(c rfl).1 (zo rfl d))));rintro l V a g ⟨c,_⟩
 exact zw (Gj:=e) (Bj:=(decide (0≤x.to))&&(decide (x.to<(↑m.rows.length:Int)))) rfl rfl rfl (c rfl) rfl (fun i d=>z5w za7 zf9 (g 3 rfl) (t.mono a));rintro l W a g ⟨c,f,_⟩
 exact zw (Gj:=e) (Bj:=(decide (0≤x.to))&&(decide (x.to<(↑m.rows.length:Int)))) rfl rfl rfl (f rfl) rfl (fun i d=>jb (oh ty3 rfl ((c rfl).1 (zo i d))) (fun _ _ h=>qd.1 h));rintro l X a g ⟨c,f,_⟩
 exact zw (Gj:=e) (Bj:=(decide (0≤x.to))&&(decide (x.to<(↑m.rows.length:Int)))) rfl rfl rfl (f rfl) rfl (fun i d=>zk (dm (show l 22=(vi x.out) from(c rfl).1 (zo i d)) rfl));rintro l Y a g ⟨c,f,j,_⟩
 exact zw (Gj:=true) (Bj:=decide (x.to=b.to∧x.out=b.out)) rfl rfl rfl (jk (j rfl)) rfl (fun i d=>zk (pu (show l 20=(.bool k) from(c rfl).1 (zo rfl d)) (fun s=>(show l 23=(.bool (decide (0≤x.out))) from(f rfl).1 (zo (zo rfl d) s))) rfl));rintro l Z a g ⟨c,f,j,_⟩
 exact zw (Gj:=true) (Bj:=decide (x.to=b.to∧x.out=b.out)) rfl rfl rfl (jk (j rfl)) rfl (fun i d=>zk (za (show l 24=(.bool o) from(c rfl).1 (zo rfl d))));rintro l aa a g ⟨c,_⟩;exact zw (Gj:=e) (Bj:=k&&(decide (0≤x.out))) rfl rfl rfl (c rfl) rfl (fun i d=>z5w za7 zf9 (g 3 rfl) (t.mono a))
 rintro l ab a g ⟨c,f,_⟩;exact zw (Gj:=e) (Bj:=k&&(decide (0≤x.out))) rfl rfl rfl (f rfl) rfl (fun i d=>jb (oh ty3 rfl ((c rfl).1 (zo i d))) (fun _ _ h=>qd.1 h));rintro l ac a g ⟨c,_⟩
 exact zw (Gj:=e) (Bj:=k&&(decide (0≤x.out))) rfl rfl rfl (c rfl) rfl (fun i d=>z5w zbi z7u (g 2 rfl) ((K.mono q).mono a));rintro l ad a g ⟨c,f,_⟩;exact zw (Gj:=e) (Bj:=k&&(decide (0≤x.out))) rfl rfl rfl (f rfl) rfl (fun i d=>jb (oh ty3 rfl ((c rfl).1 (zo i d))) (fun _ _ h=>qd.1 h))
 rintro l ae a g ⟨c,f,j,_⟩;exact zw (Gj:=e) (Bj:=k&&(decide (0≤x.out))) rfl rfl rfl (j rfl) rfl (fun i d=>zk (j4 (show l 27=(vi x.out) from(c rfl).1 (zo i d)) (show l 29=(vi m.outputs) from(f rfl).1 (zo i d))));rintro l af a g ⟨c,f,j,_⟩
 exact zw (Gj:=true) (Bj:=decide (x.to=b.to∧x.out=b.out)) rfl rfl rfl (jk (j rfl)) rfl (fun i d=>zk (pu (show l 25=(.bool o) from(c rfl).1 (zo rfl d)) (fun s=>(show l 30=(.bool (decide (x.out<m.outputs))) from(f rfl).1 (zo (zo rfl d) s))) rfl));rintro l ag a g ⟨c,f,_⟩
 exact zf rfl rfl rfl (zk (bv (c rfl) rfl (fun s=>(show l 31=(.bool L) from(f rfl).1 (zo rfl s)))));rintro l ah a g ⟨c,f,j,d3,d4,d5,d6,d7,d8,d9,aw,ax,ay,az,aA,aB,aC,aD,aE,aF,aG,aH,aI,aJ,aK,aL,aM,aN,aO,aP,_⟩;exact zf rfl rfl rfl (zk (ig (c rfl)))
 intro aQ C aR E aS F aT G aU aV aW aX aY aZ a0 a1 a2 a3 a4 a5 a6 a7 a8 a9 ba bb bc be bf bh bi bj bk bl bm bn bo bp bq br bs bt bu bw bx bz bA bB bC bD bE bF bG bH bI H bJ I;obtain rfl:=Eq.symm C;obtain rfl:=Eq.symm E;obtain rfl:=Eq.symm F;obtain rfl:=Eq.symm G;obtain rfl:=Eq.symm H;obtain rfl:=Eq.symm I
 refine z8 (qf ?_);obtain rfl:=Option.some.inj n;refine qb (D:=[]) (J:=[]) (rs:=[.tmp 4]) (vs:=[(.bool B)]) ((y.trans q).trans u) rfl rfl ⟨rfl,trivial⟩ ?_;exact⟨rfl,rfl⟩
theorem zp2:Enters prog 69:=enters_of func69 rfl (by kernel_rfl)
theorem za2{N:Nat}{R:RH}{x:Edge}{p0_:Mach}{a:Value}(c:PRep (bg false false) R a p0_){r:Bool}(b:z4q N x p0_=some r):CallP prog 68 #[(z2o x),a] R (fun v R'=>v=(.bool r)):=by
 refine qg (args:=[(z2o x),a]) func68 rfl rfl fun A=>?_;rw [z4q] at b;refine zl (zah (T:=kEdge) rfl rfl (z1o.2 rfl) fun n o d i=>?_);refine zh (.bool false) (qw (j3 rfl z6e rfl (c.mono d) fun p j=>?_));refine j3 rfl zgq rfl i fun q k=>?_;obtain rfl:=z1o.1 k
 obtain⟨h,f,b⟩:=zn b;refine qy rfl zp2 rfl (zc1 j f) fun l m e g=>?_;obtain rfl:=g;refine zz (au rfl) (zh (.bool (!h)) (z8 (qf ?_)));obtain rfl:=Option.some.inj b;refine qb (D:=[]) (J:=[]) (rs:=[.tmp 3]) (vs:=[(.bool (!h))]) (d.trans e) rfl rfl ⟨rfl,trivial⟩ ?_;exact⟨rfl,rfl⟩
theorem zpm:Enters prog 68:=enters_of func68 rfl (by kernel_rfl)
theorem z4o{N:Nat}{R:RH}{m:Mach}{q:Value}(F:VRep (bg false false) R q m){r:Int}(b:lq N m=some r):CallP prog 34 #[q] R (fun v R'=>v=(vi r)):=by
 refine qg (args:=[q]) func34 rfl rfl fun A=>?_;rw [lq] at b;refine zl (wu (T:=(bg false false)) rfl rfl rfl F fun E R3 k h5 l=>?_);refine zh (vi 0) (z8 (zt (zl (zg0 rfl (dx z3v z0z rfl l) fun v6 h7=>?_))))
 refine jg rfl (ib (uj ty3 rfl h7)) (jg rfl (vz rfl rfl) (jg (v:=(.bool (decide (16<m.inputs)))) rfl (za rfl) (qz rfl rfl rfl rfl (fun c=>dx zbi z7u rfl l) fun ak G=>?_)));refine qz rfl rfl rfl rfl (fun c=>qo (ib (uj ty3 rfl (G.1 (zo rfl c))))) fun al H=>?_
 refine qz rfl rfl rfl rfl (fun c=>qo (vz (H.1 (zo rfl c)) rfl)) fun am I=>?_;refine jg rfl (bv rfl rfl (fun n=>(I.1 (zo rfl n)))) (jg (v:=(.bool ((decide (16<m.inputs))||(decide (16<m.outputs))))) rfl (za rfl) (qz rfl rfl rfl rfl (fun c=>dx z2j z0c rfl l) fun an K=>?_))
 refine qz rfl rfl rfl rfl (fun c=>uj z9r rfl (K.1 (zo rfl c))) fun ao L=>?_;refine qz rfl rfl rfl rfl (fun c=>qo (qi rfl underlying34 rfl (jf (L.1 (zo rfl c))))) fun ap M=>?_;refine qz rfl rfl rfl rfl (fun c=>qo (vz (M.1 (zo rfl c)) rfl)) fun aq O=>?_
 refine jg rfl (bv rfl rfl (fun n=>(O.1 (zo rfl n)))) (z8 (zq rfl b (fun b=>?_) (fun b=>?_)));refine zl (zh (vi 3) (z8 (qf ?_)));obtain rfl:=Option.some.inj b;refine qb (D:=[]) (J:=[]) (rs:=[.tmp 2]) (vs:=[(vi 3)]) k rfl rfl ⟨rfl,trivial⟩ ?_;exact⟨rfl,rfl⟩
 refine q8 (zt (zl (zg0 rfl (dx z3v z0z rfl l) fun ar P=>?_)));refine jg rfl (ib (uj ty3 rfl P)) (jg rfl (j4 rfl rfl) (jg (v:=(.bool (decide (m.inputs<1)))) rfl (za rfl) (qz rfl rfl rfl rfl (fun c=>dx zbi z7u rfl l) fun au Q=>?_)))
 refine qz rfl rfl rfl rfl (fun c=>qo (ib (uj ty3 rfl (Q.1 (zo rfl c))))) fun aw S=>?_;refine qz rfl rfl rfl rfl (fun c=>qo (j4 (S.1 (zo rfl c)) rfl)) fun ax U=>?_
 refine jg rfl (bv rfl rfl (fun n=>(U.1 (zo rfl n)))) (jg (v:=(.bool ((decide (m.inputs<1))||(decide (m.outputs<1))))) rfl (za rfl) (qz rfl rfl rfl rfl (fun c=>dx z2j z0c rfl l) fun ay V=>?_));refine qz rfl rfl rfl rfl (fun c=>uj z9r rfl (V.1 (zo rfl c))) fun az W=>?_
 refine qz rfl rfl rfl rfl (fun c=>qo (qi rfl underlying34 rfl (jf (W.1 (zo rfl c))))) fun aA X=>?_;refine qz rfl rfl rfl rfl (fun c=>qo (j4 (X.1 (zo rfl c)) rfl)) fun aB Y=>?_;refine jg rfl (bv rfl rfl (fun n=>(Y.1 (zo rfl n)))) (z8 (zq rfl b (fun b=>?_) (fun b=>?_)))
 refine zl (zh (vi 1) (z8 (qf ?_)));obtain rfl:=Option.some.inj b;refine qb (D:=[]) (J:=[]) (rs:=[.tmp 2]) (vs:=[(vi 1)]) k rfl rfl ⟨rfl,trivial⟩ ?_;exact⟨rfl,rfl⟩;refine q8 ?_;obtain⟨s,a,b⟩:=zn b;refine qm (γ:=Unit) (rs [2,3,4,5,33,51]) (fun g=>[]) (fun g=>[]++A) (fun g R=>s=Ex.go g∧True) ?_ ?_
 refine zl (xy rfl z2j z0c rfl l fun aC Z=>?_);refine j3 rfl z9r rfl Z fun aD t=>?_
 refine zz (qi rfl underlying34 rfl (jf t)) (zb (vi 0) (z8 (qc (qx (γ:=Nat×Int) (rs [2,3,4,5,36,51]) (fun g=>[(36,(vi g.2))]) (fun g=>[]++A) (fun g R=>ng N m g.1 g.2=some s∧True) (fun g=>g.1) (N,0) prm ⟨a,trivial⟩ ?_))));clear a;rintro⟨o,e⟩ ah aE d ⟨a,_⟩;rcases o with _|o
 exact qj a;replace a:ng N m (o+1) e=some s:=a;rw [ng] at a;refine zl (zz (j4 rfl rfl) (z8 (zt (zq rfl a (fun a=>?_) (fun a=>?_)))));refine q8 (zt (qc (zl ?_)));obtain⟨u,a⟩:=ze a
 refine jq (i:=e.toNat) rfl zio rfl (jf (t.mono d)) (zi rfl u.1) (zx u) fun aF aa=>?_;refine j3 rfl zhf rfl aa fun p w=>?_;refine zh p (qw (jg (v:=p) rfl (za rfl) (jg rfl (qi rfl underlying73 rfl (jf w)) (zg0 rfl (dx z3v z0z rfl (l.mono d)) fun aG ab=>?_))))
 refine jg rfl (ib (uj ty3 rfl ab)) (jg rfl (u6 rfl rfl) (jg (v:=(.bool (decide ((↑(ix m.rows e).length:Int)≠m.inputs)))) rfl (za rfl) (qz rfl rfl rfl rfl (fun c=>qo (v:=p) (za rfl)) fun aH ac=>?_)))
 refine qz rfl rfl rfl rfl (fun c=>qo (v:=(.func (.func 68) #[] #[E])) (su (fs:=[]) (cs:=[E]) rfl rfl)) fun aI ad=>?_;obtain⟨ae,af,a⟩:=zn a
 refine lv rfl rfl rfl rfl (fun c=>kw (vs:=[p,(.func (.func 68) #[] #[E])]) zpp (z5t (ac.1 (zo rfl c)) (z5t (ad.1 (zo rfl c)) rfl)) ((by have ag:=(av af (zo rfl c));exact z4l w (zaj (cs:=[E]) zpm fun R1 hq z0 u0 y k0 hy=>by obtain rfl:=z1o.1 k0;exact CallP.mono (za2 ((l.mono d).mono hq) hy) fun v R2 _ hv=>ik.2 hv) ag)) (fun _ _ h=>h)) fun x z f j=>?_
 replace j:phG (true&&((decide ((↑(ix m.rows e).length:Int)≠m.inputs))==false)) (phX (.bool (ae.getD default))) x z:=j;refine jg rfl (bv rfl rfl (fun n=>(j.1 (zo rfl n)))) (z8 (zq rfl a (fun a=>?_) (fun a=>?_)));refine zl (zh (vi 1) (z8 (qf ?_)));replace b:=mg a b;obtain rfl:=Option.some.inj b
 refine qb (D:=[]) (J:=[]) (rs:=[.tmp 2]) (vs:=[(vi 1)]) ((k.trans d).trans f) rfl rfl ⟨rfl,trivial⟩ ?_;exact⟨rfl,rfl⟩;refine q8 (zy ?_);obtain⟨B,a⟩:=ze a;refine zz (qp rfl rfl B) (zb (vi (e+1)) (z8 ?_));exact⟨dkt,f,jd,(o,e+1),Nat.lt_succ_self _,⟨rfl,trivial⟩,prm,a,trivial⟩
 refine jc ?_;exact⟨dkt,d,jd,(),trivial,prm,(Option.some.inj a).symm,trivial⟩;rintro aN ai aO C ⟨rfl,_⟩;replace b:=ll b;refine zl (zh (vi 0) (z8 (qf ?_)));obtain rfl:=Option.some.inj b;refine qb (D:=[]) (J:=[]) (rs:=[.tmp 2]) (vs:=[(vi 0)]) (k.trans C) rfl rfl ⟨rfl,trivial⟩ ?_;exact⟨rfl,rfl⟩
theorem zmi:Enters prog 34:=enters_of func34 rfl (by kernel_rfl)
theorem z1q: ∀ w,(sizeOf 46).run prog w= .ok 1 w:=fun w=>by kernel_rfl
theorem zj0{a b:Bool}:SlOk prog 42 36 (bg a b):=⟨underlying42,z6e⟩
theorem z3p{N:Nat}{R:RH}{s:(List Int)}{c:Value}(k:VRep (tSl false (zu .i64)) R c s){f:Int→Option Bool}{e:Value}(n:FOk1 prog R e (zu .i64) z3z f){r:Int}(b:iq N s f=some r):CallP prog 80 #[c,e] R (fun v R'=>v=(vi r)):=by
 refine qg (args:=[c,e]) func80 rfl rfl fun A=>?_;rw [iq] at b;refine zl (zh (vi 0) (z8 ?_));obtain⟨o,a,b⟩:=zn b;refine qm (γ:=Unit) (rs [4,19]) (fun g=>[]) (fun g=>[]++A) (fun g R=>o=Ex.go g∧True) ?_ ?_
 refine zl (zb c (zz (qi rfl underlying40 rfl (jf k)) (zb (vi 0) (z8 (qc (qx (γ:=Nat×Int) (rs [4,6,8,19]) (fun g=>[(8,(vi g.2))]) (fun g=>[]++A) (fun g R=>wy N s f g.1 g.2=some o∧True) (fun g=>g.1) (N,0) prm ⟨a,trivial⟩ ?_))))));clear a;rintro⟨m,d⟩ y H h ⟨a,_⟩;rcases m with _|m
 exact qj a;replace a:wy N s f (m+1) d=some o:=a;rw [wy] at a;refine zl (zz (j4 rfl rfl) (z8 (zt (zq rfl a (fun a=>?_) (fun a=>?_)))));refine q8 (zt (qc (zl (zb (vi d) (zh (vi d) (qw (zb e (zb c (zb (vi d) ?_)))))))))
 obtain⟨l,a⟩:=ze a;refine jq (i:=d.toNat) rfl z00 rfl (jf (k.mono h)) (zi rfl l.1) (zx l) fun z p=>?_;refine j3 rfl ty3 rfl p fun B q=>?_;obtain rfl:=qd.1 q;obtain⟨C,t,a⟩:=zn a;refine z7l rfl rfl rfl ((n.mono h) _ (RH.le.refl _) (ix s d) _ _ (qd.2 rfl) t) fun E F j u=>?_
 obtain rfl:=ik.1 u;refine z8 (zq rfl a (fun a=>?_) (fun a=>?_));refine zl (zb (vi d) (zh (vi d) (z8 (qf ?_))));replace b:=mg a b;obtain rfl:=Option.some.inj b;refine qb (D:=[]) (J:=[]) (rs:=[.tmp 4]) (vs:=[(vi d)]) (h.trans j) rfl rfl ⟨rfl,trivial⟩ ?_;exact⟨rfl,rfl⟩
 refine q8 (zy ?_);obtain⟨w,a⟩:=ze a;refine zz (qp rfl rfl w) (zb (vi (d+1)) (z8 ?_));exact⟨dkt,j,jd,(m,d+1),Nat.lt_succ_self _,⟨rfl,trivial⟩,prm,a,trivial⟩;refine jc ?_;exact⟨dkt,h,jd,(),trivial,prm,(Option.some.inj a).symm,trivial⟩;rintro I G K x ⟨rfl,_⟩;replace b:=ll b
 refine zl (zh (vi (-1)) (z8 (qf ?_)));obtain rfl:=Option.some.inj b;refine qb (D:=[]) (J:=[]) (rs:=[.tmp 4]) (vs:=[(vi (-1))]) x rfl rfl ⟨rfl,trivial⟩ ?_;exact⟨rfl,rfl⟩
theorem zng:Enters prog 80:=enters_of func80 rfl (by kernel_rfl)
theorem z2i{N:Nat}{R:RH}{s:(List Int)}{a:Value}(d:VRep (tSl false (zu .i64)) R a s){f:Int→Option Bool}{b:Value}(e:FOk1 prog R b (zu .i64) z3z f){r:Bool}(c:nz N s f=some r):CallP prog 60 #[a,b] R (fun v R'=>v=(.bool r)):=by
 refine qg (args:=[a,b]) func60 rfl rfl fun A=>?_;rw [nz] at c;refine zl (zh (.bool false) (qw (zb a (zb b ?_))));obtain⟨h,i,c⟩:=zn c;refine qy rfl zng rfl (z3p d e i) fun k l g j=>?_;obtain rfl:=j
 refine zz (dm rfl rfl) (zh (.bool (decide (0≤h))) (z8 (qf ?_)));obtain rfl:=Option.some.inj c;refine qb (D:=[]) (J:=[]) (rs:=[.tmp 4]) (vs:=[(.bool (decide (0≤h)))]) g rfl rfl ⟨rfl,trivial⟩ ?_;exact⟨rfl,rfl⟩
theorem zo1:Enters prog 60:=enters_of func60 rfl (by kernel_rfl)
theorem zc7{N:Nat}{R:RH}{c:Int}{p0_:Int}{a:Value}(b:PRep (zu .i64) R a p0_){r:Bool}(d:z7a N c p0_=some r):CallP prog 107 #[(vi c),a] R (fun v R'=>v=(.bool r)):=by
 refine qg (args:=[(vi c),a]) func107 rfl rfl fun A=>?_;rw [z7a] at d;refine zl (zh (.bool false) (qw (jg (v:=(vi c)) rfl (za rfl) (jg rfl (j4 rfl rfl) (jg (v:=(.bool (decide (c<0)))) rfl (za rfl) (qz rfl rfl rfl rfl (fun e=>qo (v:=(vi c)) (za rfl)) fun k h=>?_))))))
 refine qz rfl rfl rfl rfl (fun e=>qo (ib (uj ty3 rfl b))) fun l f=>?_;refine qz rfl rfl rfl rfl (fun e=>qo (dm (h.1 (zo rfl e)) (f.1 (zo rfl e)))) fun i g=>?_;refine jg rfl (bv rfl rfl (fun j=>(g.1 (zo rfl j)))) (jg (v:=(.bool ((decide (c<0))||(decide (p0_≤c))))) rfl (ig rfl) (z8 (qf ?_)))
 obtain rfl:=Option.some.inj d;refine qb (D:=[]) (J:=[]) (rs:=[.tmp 3]) (vs:=[(.bool ((decide (c<0))||(decide (p0_≤c))))]) (RH.le.refl _) rfl rfl ⟨rfl,trivial⟩ ?_;exact⟨rfl,rfl⟩
theorem zoe:Enters prog 107:=enters_of func107 rfl (by kernel_rfl)
theorem z9u{N:Nat}{R:RH}{x:(List Int)}{b:Value}(e:VRep (tSl false (zu .i64)) R b x){inputs:Int}{r:Int}(a:z16 N x inputs=some r):CallP prog 87 #[b,(vi inputs)] R (fun v R'=>v=(vi r)):=by
 refine qg (args:=[b,(vi inputs)]) func87 rfl rfl fun A=>?_;rw [z16] at a;refine zl (zah (T:=(zu .i64)) rfl rfl (qd.2 rfl) fun i L c j=>?_)
 refine zh (vi 0) (z8 (zt (zl (jg rfl (ib (uj ty3 rfl j)) (jg rfl (vz rfl rfl) (jg (v:=(.bool (decide (16<inputs)))) rfl (za rfl) (qz rfl rfl rfl rfl (fun d=>qo (v:=b) (za rfl)) fun z k=>?_)))))))
 refine qz rfl rfl rfl rfl (fun d=>qo (qi rfl underlying40 (k.1 (zo rfl d)) (jf (e.mono c)))) fun B l=>?_;refine qz rfl rfl rfl rfl (fun d=>qo (vz (l.1 (zo rfl d)) rfl)) fun C m=>?_;refine jg rfl (bv rfl rfl (fun n=>(m.1 (zo rfl n)))) (z8 (zq rfl a (fun a=>?_) (fun a=>?_)))
 refine zl (zh (vi 3) (z8 (qf ?_)));obtain rfl:=Option.some.inj a;refine qb (D:=[]) (J:=[]) (rs:=[.tmp 4]) (vs:=[(vi 3)]) c rfl rfl ⟨rfl,trivial⟩ ?_;exact⟨rfl,rfl⟩
 refine q8 (zt (zl (jg rfl (ib (uj ty3 rfl j)) (jg rfl (j4 rfl rfl) (jg (v:=(.bool (decide (inputs<1)))) rfl (za rfl) (qz rfl rfl rfl rfl (fun d=>qo (v:=b) (za rfl)) fun E o=>?_))))))
 refine qz rfl rfl rfl rfl (fun d=>qo (v:=(.func (.func 107) #[] #[i])) (su (fs:=[]) (cs:=[i]) rfl rfl)) fun F p=>?_;obtain⟨q,s,a⟩:=zn a
 refine lv rfl rfl rfl rfl (fun d=>kw (vs:=[b,(.func (.func 107) #[] #[i])]) zo1 (z5t (o.1 (zo rfl d)) (z5t (p.1 (zo rfl d)) rfl)) ((by have t:=(av s (zo rfl d));exact z2i (e.mono c) (zaj (cs:=[i]) zoe fun M G O P y H I=>by obtain rfl:=qd.1 H;exact CallP.mono (zc7 (j.mono G) I) fun v Q _ K=>ik.2 K) t)) (fun _ _ h=>h)) fun u w f g=>?_
 replace g:phG (true&&((decide (inputs<1))==false)) (phX (.bool (q.getD default))) u w:=g;refine jg rfl (bv rfl rfl (fun n=>(g.1 (zo rfl n)))) (z8 (zq rfl a (fun a=>?_) (fun a=>?_)));refine zl (zh (vi 1) (z8 (qf ?_)));obtain rfl:=Option.some.inj a
 refine qb (D:=[]) (J:=[]) (rs:=[.tmp 4]) (vs:=[(vi 1)]) (c.trans f) rfl rfl ⟨rfl,trivial⟩ ?_;exact⟨rfl,rfl⟩;refine q8 (zl (zh (vi 0) (z8 (qf ?_))));obtain rfl:=Option.some.inj a;refine qb (D:=[]) (J:=[]) (rs:=[.tmp 4]) (vs:=[(vi 0)]) (c.trans f) rfl rfl ⟨rfl,trivial⟩ ?_;exact⟨rfl,rfl⟩
theorem zn8:Enters prog 87:=enters_of func87 rfl (by kernel_rfl)
theorem zdg{N:Nat}{R:RH}{p:(List (List Int))}{c:Value}(d:VRep (tSl false (tSl false (zu .i64))) R c p){inputs:Int}{r:Int}(b:z4y N p inputs=some r):CallP prog 70 #[c,(vi inputs)] R (fun v R'=>v=(vi r)):=by
 refine qg (args:=[c,(vi inputs)]) func70 rfl rfl fun A=>?_;rw [z4y] at b
 refine zl (zh (vi 0) (z8 (zt (zl (jg (v:=(vi inputs)) rfl (za rfl) (jg rfl (vz rfl rfl) (jg (v:=(.bool (decide (16<inputs)))) rfl (za rfl) (qz rfl rfl rfl rfl (fun q=>qo (v:=c) (za rfl)) fun P B=>?_))))))))
 refine qz rfl rfl rfl rfl (fun q=>qo (qi rfl underlying38 (B.1 (zo rfl q)) (jf d))) fun Q s=>?_;refine qz rfl rfl rfl rfl (fun q=>qo (vz (s.1 (zo rfl q)) rfl)) fun C t=>?_;refine jg rfl (bv rfl rfl (fun E=>(t.1 (zo rfl E)))) (z8 (zq rfl b (fun b=>?_) (fun b=>?_)))
 refine zl (zh (vi 3) (z8 (qf ?_)));obtain rfl:=Option.some.inj b;refine qb (D:=[]) (J:=[]) (rs:=[.tmp 4]) (vs:=[(vi 3)]) (RH.le.refl _) rfl rfl ⟨rfl,trivial⟩ ?_;exact⟨rfl,rfl⟩;refine q8 (zt (zl (zb (vi inputs) (zz (j4 rfl rfl) (z8 (zq rfl b (fun b=>?_) (fun b=>?_)))))))
 refine zl (zh (vi 1) (z8 (qf ?_)));obtain rfl:=Option.some.inj b;refine qb (D:=[]) (J:=[]) (rs:=[.tmp 4]) (vs:=[(vi 1)]) (RH.le.refl _) rfl rfl ⟨rfl,trivial⟩ ?_;exact⟨rfl,rfl⟩;refine q8 ?_;obtain⟨l,a,b⟩:=zn b
 refine qm (γ:=Unit) (rs [4,5,6,8,17,30]) (fun g=>[]) (fun g=>[]++A) (fun g R=>l=Ex.go g∧True) ?_ ?_
 refine zl (zb c (zz (qi rfl underlying38 rfl (jf d)) (zb (vi 0) (z8 (qc (qx (γ:=Nat×Int) (rs [4,5,6,8,19,30]) (fun g=>[(19,(vi g.2))]) (fun g=>[]++A) (fun g R=>rf N p inputs g.1 g.2=some l∧True) (fun g=>g.1) (N,0) prm ⟨a,trivial⟩ ?_))))));clear a;rintro⟨h,j⟩ F G e ⟨a,_⟩
 rcases h with _|h;exact qj a;replace a:rf N p inputs (h+1) j=some l:=a;rw [rf] at a;refine zl (zz (j4 rfl rfl) (z8 (zt (zq rfl a (fun a=>?_) (fun a=>?_)))));refine q8 (zt (qc (zl ?_)));obtain⟨m,a⟩:=ze a
 refine jq (i:=j.toNat) rfl z7o rfl (jf (d.mono e)) (zi rfl m.1) (zx m) fun H u=>?_;refine j3 rfl z7e rfl u fun n w=>?_;refine zh n (qw (zb n (zb (vi inputs) ?_)));obtain⟨f,x,a⟩:=zn a;refine qy rfl zn8 rfl (z9u w x) fun I K k y=>?_;obtain rfl:=y
 refine zh (vi f) (qw (zb (vi f) (zz (u6 rfl rfl) (z8 (zq rfl a (fun a=>?_) (fun a=>?_))))));refine zl (zb (vi f) (zh (vi f) (z8 (qf ?_))));replace b:=mg a b;obtain rfl:=Option.some.inj b
 refine qb (D:=[]) (J:=[]) (rs:=[.tmp 4]) (vs:=[(vi f)]) (e.trans k) rfl rfl ⟨rfl,trivial⟩ ?_;exact⟨rfl,rfl⟩;refine q8 (zy ?_);obtain⟨z,a⟩:=ze a;refine zz (qp rfl rfl z) (zb (vi (j+1)) (z8 ?_));exact⟨dkt,k,jd,(h,j+1),Nat.lt_succ_self _,⟨rfl,trivial⟩,prm,a,trivial⟩;refine jc ?_
 exact⟨dkt,e,jd,(),trivial,prm,(Option.some.inj a).symm,trivial⟩;rintro L M O o ⟨rfl,_⟩;replace b:=ll b;refine zl (zh (vi 0) (z8 (qf ?_)));obtain rfl:=Option.some.inj b;refine qb (D:=[]) (J:=[]) (rs:=[.tmp 4]) (vs:=[(vi 0)]) o rfl rfl ⟨rfl,trivial⟩ ?_;exact⟨rfl,rfl⟩
theorem zq4:Enters prog 70:=enters_of func70 rfl (by kernel_rfl)
theorem z8h{N:Nat}{R:RH}{x:Int}{r:Bool}(a:cmp_isNaN_int N x=some r):CallP prog 125 #[(vi x)] R (fun v R'=>v=(.bool r)):=by
 refine qg (args:=[(vi x)]) func125 rfl rfl fun A=>?_;rw [cmp_isNaN_int] at a;refine zl (zh (.bool false) (qw (zb (vi x) (zb (vi x) (zz (u6 rfl rfl) (zh (.bool (decide (x≠x))) (z8 (qf ?_))))))));obtain rfl:=Option.some.inj a
 refine qb (D:=[]) (J:=[]) (rs:=[.tmp 2]) (vs:=[(.bool (decide (x≠x)))]) (RH.le.refl _) rfl rfl ⟨rfl,trivial⟩ ?_;exact⟨rfl,rfl⟩
theorem zme:Enters prog 125:=enters_of func125 rfl (by kernel_rfl)
theorem z6t{N:Nat}{R:RH}{x:Int}{y:Int}{r:Int}(a:cmp_Compare_int N x y=some r):CallP prog 109 #[(vi x),(vi y)] R (fun v R'=>v=(vi r)):=by
 refine qg (args:=[(vi x),(vi y)]) func109 rfl rfl fun A=>?_;rw [cmp_Compare_int] at a;refine zl (zh (vi 0) (qw (zb (vi x) ?_)));obtain⟨f,g,a⟩:=zn a;refine qy rfl zme rfl (z8h  g) fun k l c h=>?_;obtain rfl:=h;refine zh (.bool f) (qw (zb (vi y) ?_))
 obtain⟨d,i,a⟩:=zn a;refine qy rfl zme rfl (z8h  i) fun m j b e=>?_;obtain rfl:=e;refine zh (.bool d) (z8 (zt (zl (zb (.bool f) (z8 (zq rfl a (fun a=>?_) (fun a=>?_)))))));refine zt (zl (zb (.bool d) (z8 (zq rfl a (fun a=>?_) (fun a=>?_)))))
 refine zl (zh (vi 0) (z8 (qf ?_)));obtain rfl:=Option.some.inj a;refine qb (D:=[]) (J:=[]) (rs:=[.tmp 4]) (vs:=[(vi 0)]) (c.trans b) rfl rfl ⟨rfl,trivial⟩ ?_;exact⟨rfl,rfl⟩;refine q8 (zl (zh (vi (-1)) (z8 (qf ?_))));obtain rfl:=Option.some.inj a
 refine qb (D:=[]) (J:=[]) (rs:=[.tmp 4]) (vs:=[(vi (-1))]) (c.trans b) rfl rfl ⟨rfl,trivial⟩ ?_;exact⟨rfl,rfl⟩;refine q8 (zt (zl (zb (.bool d) (z8 (zq rfl a (fun a=>?_) (fun a=>?_))))));refine zl (zh (vi 1) (z8 (qf ?_)));obtain rfl:=Option.some.inj a
 refine qb (D:=[]) (J:=[]) (rs:=[.tmp 4]) (vs:=[(vi 1)]) (c.trans b) rfl rfl ⟨rfl,trivial⟩ ?_;exact⟨rfl,rfl⟩;refine q8 (zt (zl (zb (vi x) (zb (vi y) (zz (j4 rfl rfl) (z8 (zq rfl a (fun a=>?_) (fun a=>?_))))))));refine zl (zh (vi (-1)) (z8 (qf ?_)));obtain rfl:=Option.some.inj a
 refine qb (D:=[]) (J:=[]) (rs:=[.tmp 4]) (vs:=[(vi (-1))]) (c.trans b) rfl rfl ⟨rfl,trivial⟩ ?_;exact⟨rfl,rfl⟩;refine q8 (zt (zl (zb (vi x) (zb (vi y) (zz (vz rfl rfl) (z8 (zq rfl a (fun a=>?_) (fun a=>?_))))))));refine zl (zh (vi 1) (z8 (qf ?_)));obtain rfl:=Option.some.inj a
 refine qb (D:=[]) (J:=[]) (rs:=[.tmp 4]) (vs:=[(vi 1)]) (c.trans b) rfl rfl ⟨rfl,trivial⟩ ?_;exact⟨rfl,rfl⟩;refine q8 (zl (zh (vi 0) (z8 (qf ?_))));obtain rfl:=Option.some.inj a;refine qb (D:=[]) (J:=[]) (rs:=[.tmp 4]) (vs:=[(vi 0)]) (c.trans b) rfl rfl ⟨rfl,trivial⟩ ?_;exact⟨rfl,rfl⟩
theorem zmf:Enters prog 109:=enters_of func109 rfl (by kernel_rfl)
theorem z96{N:Nat}{R:RH}{s1_:(List Int)}{d:Value}(e:VRep (tSl false (zu .i64)) R d s1_){s2_:(List Int)}{c:Value}(f:VRep (tSl false (zu .i64)) R c s2_){r:Int}(b:z0g N s1_ s2_=some r):CallP prog 110 #[d,c] R (fun v R'=>v=(vi r)):=by
 refine qg (args:=[d,c]) func110 rfl rfl fun A=>?_;rw [z0g] at b;refine zl (zh (vi 0) (z8 ?_));obtain⟨q,a,b⟩:=zn b;refine qm (γ:=Unit) (rs [4,31]) (fun g=>[]) (fun g=>[]++A) (fun g R=>q=Ex.go g∧True) ?_ ?_
 refine zl (zb d (zz (qi rfl underlying40 rfl (jf e)) (zb (vi 0) (z8 (qc (qx (γ:=Nat×Int) (rs [4,9,11,31]) (fun g=>[(11,(vi g.2))]) (fun g=>[]++A) (fun g R=>yz N s1_ s2_ g.1 g.2=some q∧True) (fun g=>g.1) (N,0) prm ⟨a,trivial⟩ ?_))))));clear a;rintro⟨p,h⟩ B L j ⟨a,_⟩
 rcases p with _|p;exact qj a;replace a:yz N s1_ s2_ (p+1) h=some q:=a;rw [yz] at a;refine zl (zz (j4 rfl rfl) (z8 (zt (zq rfl a (fun a=>?_) (fun a=>?_)))));refine q8 (zt (qc (zl (zb (vi h) ?_))));obtain⟨n,a⟩:=ze a
 refine jq (i:=h.toNat) rfl z00 rfl (jf (e.mono j)) (zi rfl n.1) (zx n) fun C s=>?_;refine j3 rfl ty3 rfl s fun E t=>?_;obtain rfl:=qd.1 t
 refine zh (vi h) (zh (vi (ix s1_ h)) (z8 (zt (zl (zb (vi h) (zb c (zz (qi rfl underlying40 rfl (jf (f.mono j))) (zz (dm rfl rfl) (z8 (zq rfl a (fun a=>?_) (fun a=>?_)))))))))));refine zl (zh (vi 1) (z8 (qf ?_)));replace b:=mg a b;obtain rfl:=Option.some.inj b
 refine qb (D:=[]) (J:=[]) (rs:=[.tmp 4]) (vs:=[(vi 1)]) j rfl rfl ⟨rfl,trivial⟩ ?_;exact⟨rfl,rfl⟩;refine q8 (zl (zb c (zb (vi h) ?_)));obtain⟨o,a⟩:=ze a;refine jq (i:=h.toNat) rfl z00 rfl (jf (f.mono j)) (zi rfl o.1) (zx o) fun F u=>?_;refine j3 rfl ty3 rfl u fun G w=>?_
 obtain rfl:=qd.1 w;refine zh (vi (ix s2_ h)) (qw (zb (vi (ix s1_ h)) (zb (vi (ix s2_ h)) ?_)));obtain⟨k,x,a⟩:=zn a;refine qy rfl zmf rfl (z6t  x) fun H I m y=>?_;obtain rfl:=y
 refine zh (vi k) (qw (zb (vi k) (zz (u6 rfl rfl) (z8 (zq rfl a (fun a=>?_) (fun a=>?_))))));refine zl (zb (vi k) (zh (vi k) (z8 (qf ?_))));replace b:=mg a b;obtain rfl:=Option.some.inj b
 refine qb (D:=[]) (J:=[]) (rs:=[.tmp 4]) (vs:=[(vi k)]) (j.trans m) rfl rfl ⟨rfl,trivial⟩ ?_;exact⟨rfl,rfl⟩;refine q8 (zy ?_);obtain⟨z,a⟩:=ze a;refine zz (qp rfl rfl z) (zb (vi (h+1)) (z8 ?_));exact⟨dkt,m,jd,(p,h+1),Nat.lt_succ_self _,⟨rfl,trivial⟩,prm,a,trivial⟩;refine jc ?_
 exact⟨dkt,j,jd,(),trivial,prm,(Option.some.inj a).symm,trivial⟩;rintro M K O l ⟨rfl,_⟩;replace b:=ll b
 refine zt (zl (zb d (zz (qi rfl underlying40 rfl (jf (e.mono l))) (zb c (zz (qi rfl underlying40 rfl (jf (f.mono l))) (zz (j4 rfl rfl) (z8 (zq rfl b (fun b=>?_) (fun b=>?_)))))))));refine zl (zh (vi (-1)) (z8 (qf ?_)));obtain rfl:=Option.some.inj b
 refine qb (D:=[]) (J:=[]) (rs:=[.tmp 4]) (vs:=[(vi (-1))]) l rfl rfl ⟨rfl,trivial⟩ ?_;exact⟨rfl,rfl⟩;refine q8 (zl (zh (vi 0) (z8 (qf ?_))));obtain rfl:=Option.some.inj b;refine qb (D:=[]) (J:=[]) (rs:=[.tmp 4]) (vs:=[(vi 0)]) l rfl rfl ⟨rfl,trivial⟩ ?_;exact⟨rfl,rfl⟩
theorem zn9:Enters prog 110:=enters_of func110 rfl (by kernel_rfl)
theorem zes{N:Nat}{R:RH}{vals:(List Int)}{b:Value}(d:VRep (tSl false (zu .i64)) R b vals){r:Int}(c:z6a N vals=some r):CallP prog 108 #[b] R (fun v R'=>v=(vi r)):=by
 refine qg (args:=[b]) func108 rfl rfl fun A=>?_;rw [z6a] at c;refine zl (zh (vi 0) (qw (zh (vi 0) (z8 ?_))));obtain⟨k,a,c⟩:=zn c;refine qm (γ:=Unit) (rs [2,3,5,17]) (fun g=>[]) (fun g=>[]++A) (fun g R=>k=Ex.go g∧True) ?_ ?_
 refine zl (zb b (zz (qi rfl underlying40 rfl (jf d)) (zb (vi 0) (z8 (qc (qx (γ:=Nat×Int) (rs [2,3,5,6,8,17]) (fun g=>[(8,(vi g.2))]) (fun g=>[]++A) (fun g R=>af N vals g.1 g.2=some k∧True) (fun g=>g.1) (N,0) prm ⟨a,trivial⟩ ?_))))));clear a;rintro⟨j,e⟩ p u f ⟨a,_⟩
 rcases j with _|j;exact qj a;replace a:af N vals (j+1) e=some k:=a;rw [af] at a;refine zl (zz (j4 rfl rfl) (z8 (zt (zq rfl a (fun a=>?_) (fun a=>?_)))));refine q8 (zt (qc (zl ?_)));obtain⟨h,a⟩:=ze a
 refine jq (i:=e.toNat) rfl z00 rfl (jf (d.mono f)) (zi rfl h.1) (zx h) fun q l=>?_;refine j3 rfl ty3 rfl l fun s m=>?_;obtain rfl:=qd.1 m;refine zh (vi (ix vals e)) (qw (zb (vi (ix vals e)) (zb (vi 0) (zz (u6 rfl rfl) (z8 (zq rfl a (fun a=>?_) (fun a=>?_)))))))
 refine zl (zb (vi (ix vals e)) (zh (vi (ix vals e)) (z8 (qf ?_))));replace c:=mg a c;obtain rfl:=Option.some.inj c;refine qb (D:=[]) (J:=[]) (rs:=[.tmp 2]) (vs:=[(vi (ix vals e))]) f rfl rfl ⟨rfl,trivial⟩ ?_;exact⟨rfl,rfl⟩;refine q8 (zy ?_);obtain⟨n,a⟩:=ze a
 refine zz (qp rfl rfl n) (zb (vi (e+1)) (z8 ?_));exact⟨dkt,(RH.le.refl _),jd,(j,e+1),Nat.lt_succ_self _,⟨rfl,trivial⟩,prm,a,trivial⟩;refine jc ?_;exact⟨dkt,f,jd,(),trivial,prm,(Option.some.inj a).symm,trivial⟩;rintro w t x o ⟨rfl,_⟩;replace c:=ll c
 refine zl (zb (vi 0) (zh (vi 0) (z8 (qf ?_))));obtain rfl:=Option.some.inj c;refine qb (D:=[]) (J:=[]) (rs:=[.tmp 2]) (vs:=[(vi 0)]) o rfl rfl ⟨rfl,trivial⟩ ?_;exact⟨rfl,rfl⟩
theorem zon:Enters prog 108:=enters_of func108 rfl (by kernel_rfl)
theorem zc8{N:Nat}{R:RH}{a:(List Int)}{d:Value}(i:VRep (tSl false (zu .i64)) R d a){b:(List Int)}{e:Value}(j:VRep (tSl false (zu .i64)) R e b){r:Int}(c:z2s N a b=some r):CallP prog 88 #[d,e] R (fun v R'=>v=(vi r)):=by
 refine qg (args:=[d,e]) func88 rfl rfl fun A=>?_;rw [z2s] at c;refine zl (zh (vi 0) (qw (zb d (zz (qi rfl underlying40 rfl (jf i)) (zb e (zz (qi rfl underlying40 rfl (jf j)) ?_))))));obtain⟨o,z,c⟩:=zn c;refine qy rfl zmf rfl (z6t  z) fun H I f C=>?_
 obtain rfl:=C;refine zb d (zb e ?_);obtain⟨p,E,c⟩:=zn c;refine qy rfl zn9 rfl (z96 (i.mono f) (j.mono f) E) fun K F k q=>?_;obtain rfl:=q
 refine bz (T:=(zu .i64)) (X:=([o,p]:List Int)) (ps:=[(0,(vi o)),(1,(vi p))]) (css:=[[(vi o)],[(vi p)]]) rfl underlying40 zo3 rfl rfl (jl ⟨rfl,rfl,trivial⟩) rfl rfl (by decide) fun l s g u=>?_;obtain⟨h,w,c⟩:=zn c
 refine z6v (cs:=[]) (vs:=[l]) (φ:=fun v=>v=(vi h)) rfl zon rfl rfl (fun x m n=>zes (Sub.v (B:=(tSl false (zu .i64))) (u7 Sub.refl (fun _=>rfl)) (z0b (t:=true) ((z9z 0 rfl u m n):VRep (bf (zu .i64)) x l ([o,p]:List Int)) g)) w) fun G y=>?_;obtain rfl:=y
 refine zh (vi h) (z8 (qf ?_));obtain rfl:=Option.some.inj c;refine qb (D:=[]) (J:=[s]) (rs:=[.tmp 4]) (vs:=[(vi h)]) (f.trans k) rfl rfl ⟨rfl,trivial⟩ ?_;exact⟨rfl,rfl⟩
theorem zqa:Enters prog 88:=enters_of func88 rfl (by kernel_rfl)
theorem zdd{N:Nat}{R:RH}{n:(List (List Int))}{c:Value}(k:VRep (tSl false (tSl false (zu .i64))) R c n){r:Bool}(d:z5c N n=some r):CallP prog 71 #[c] R (fun v R'=>v=(.bool r)):=by
 refine qg (args:=[c]) func71 rfl rfl fun A=>?_;rw [z5c] at d;refine zl (zh (.bool false) (z8 ?_));obtain⟨w,a,d⟩:=zn d;refine qm (γ:=Unit) (rs [2,21]) (fun g=>[]) (fun g=>[]++A) (fun g R=>w=Ex.go g∧True) ?_ ?_
 refine zl (zh (vi 1) (z8 (qc (qx (γ:=Nat×Int) (rs [2,21]) (fun g=>[(3,(vi g.2))]) (fun g=>[]++A) (fun g R=>aj N n g.1 g.2=some w∧True) (fun g=>g.1) (N,1) prm ⟨a,trivial⟩ ?_))));clear a;rintro⟨u,e⟩ O R7 m ⟨a,_⟩;rcases u with _|u;exact qj a
 replace a:aj N n (u+1) e=some w:=a;rw [aj] at a;refine zt (zl (zb (vi e) (zb c (zz (qi rfl underlying38 rfl (jf (k.mono m))) (zz (j4 rfl rfl) (z8 (zq rfl a (fun a=>?_) (fun a=>?_))))))));refine q8 (zt (qc (zt ?_)));obtain⟨x,p,q,a⟩:=zkr a;obtain⟨s,y,a⟩:=zn a
 refine xz 11 [] [phX c,phX (vi e),phX (vi (e-1)),phP (tSl false (zu .i64)) (ix n (e-1)),phR (tSl false (zu .i64)) (ix n (e-1)),phX c,phX (vi e),phP (tSl false (zu .i64)) (ix n e),phR (tSl false (zu .i64)) (ix n e),phX (vi s),phX (.bool (decide (0≤s)))] mixed (by kernel_rfl) (vw ⟨zg,zg,zg,z1y,z1b,zg,zg,z1y,z1b,zg,zg,trivial⟩) ⟨?_,?_,?_,?_,?_,?_,?_,?_,?_,?_,?_,trivial⟩ fun P o=>?_
 intro l Q b f z;exact zf rfl rfl rfl (zk (za (f 0 rfl)));intro l S b f z;exact zf rfl rfl rfl (zk (za (f 3 rfl)));rintro l T b f ⟨j,_⟩;exact zf rfl rfl rfl (zk (kv (j rfl) rfl x));rintro l U b f ⟨j,t,_⟩
 exact zf rfl rfl rfl (z10 (i:=(e-1).toNat) z7o (j rfl) (jf ((k.mono m).mono b)) (zi (t rfl) p.1) (zx p));rintro l V b f ⟨j,_⟩;exact zf rfl rfl rfl (oh z7e rfl (j rfl));intro l W b f z;exact zf rfl rfl rfl (zk (za (f 0 rfl)));intro l X b f z
 exact zf rfl rfl rfl (zk (za (f 3 rfl)));rintro l Y b f ⟨j,t,_⟩;exact zf rfl rfl rfl (z10 (i:=e.toNat) z7o (j rfl) (jf ((k.mono m).mono b)) (zi (t rfl) q.1) (zx q));rintro l Z b f ⟨j,_⟩;exact zf rfl rfl rfl (oh z7e rfl (j rfl));rintro l aa b f ⟨j,t,_⟩
 exact zf rfl rfl rfl (kw (vs:=[(l 14),(l 18)]) zqa rfl (zc8 (j rfl) (t rfl) y) (fun _ _ h=>h));rintro l M b f ⟨j,_⟩;exact zf rfl rfl rfl (zk (dm (j rfl) rfl));intro ab B ac C ad E ae af ag ah ai F ak G al am an ao ap H aq I;obtain rfl:=Eq.symm B;obtain rfl:=Eq.symm C;obtain rfl:=Eq.symm E
 obtain rfl:=Eq.symm F;obtain rfl:=Eq.symm G;obtain rfl:=Eq.symm H;obtain rfl:=Eq.symm I;refine z8 (zq rfl a (fun a=>?_) (fun a=>?_));refine zl (zh (.bool false) (z8 (qf ?_)));replace d:=mg a d;obtain rfl:=Option.some.inj d
 refine qb (D:=[]) (J:=[]) (rs:=[.tmp 2]) (vs:=[(.bool false)]) (m.trans o) rfl rfl ⟨rfl,trivial⟩ ?_;exact⟨rfl,rfl⟩;refine q8 (zy (zb (vi e) ?_));obtain⟨K,a⟩:=ze a;refine zz (qp rfl rfl K) (zh (vi (e+1)) (z8 ?_));exact⟨dkt,o,jd,(u,e+1),Nat.lt_succ_self _,⟨rfl,trivial⟩,prm,a,trivial⟩
 refine jc ?_;exact⟨dkt,m,jd,(),trivial,prm,(Option.some.inj a).symm,trivial⟩;rintro o1 ar R3 L ⟨rfl,_⟩;replace d:=ll d;refine zl (zh (.bool true) (z8 (qf ?_)));obtain rfl:=Option.some.inj d;refine qb (D:=[]) (J:=[]) (rs:=[.tmp 2]) (vs:=[(.bool true)]) L rfl rfl ⟨rfl,trivial⟩ ?_;exact⟨rfl,rfl⟩
theorem zpk:Enters prog 71:=enters_of func71 rfl (by kernel_rfl)
theorem zdk{N:Nat}{R:RH}{f:(List (List Int))}{b:Value}(d:VRep (tSl false (tSl false (zu .i64))) R b f){r:Int}(c:z5h N f=some r):CallP prog 72 #[b] R (fun v R'=>v=(vi r)):=by
 refine qg (args:=[b]) func72 rfl rfl fun A=>?_;rw [z5h] at c;refine zl (zh (vi 0) (z8 ?_));obtain⟨e,a,c⟩:=zn c;refine qm (γ:=Int) (rs [2,3,4,16]) (fun g=>[(2,(vi g))]) (fun g=>[]++A) (fun g R=>e=g∧True) ?_ ?_
 refine zl (zb b (zz (qi rfl underlying38 rfl (jf d)) (zb (vi 0) (z8 (qc (qx (γ:=Nat×Int×Int) (rs [2,3,4,5,7,16]) (fun g=>[(2,(vi g.2.1)),(7,(vi g.2.2))]) (fun g=>[]++A) (fun g R=>rq N f g.1 g.2.1 g.2.2=some e∧True) (fun g=>g.1) (N,0,0) prm ⟨a,trivial⟩ ?_))))));clear a
 rintro⟨n,j,h⟩ u y k ⟨a,_⟩;rcases n with _|n;exact qj a;replace a:rq N f (n+1) j h=some e:=a;rw [rq] at a;refine zl (zz (j4 rfl rfl) (z8 (zt (zq rfl a (fun a=>?_) (fun a=>?_)))));refine q8 (zt (qc (zl ?_)));obtain⟨l,a⟩:=ze a
 refine jq (i:=h.toNat) rfl z7o rfl (jf (d.mono k)) (zi rfl l.1) (zx l) fun w o=>?_;refine j3 rfl z7e rfl o fun m p=>?_;refine zh m (z8 (zy (zb (vi j) (zb m (zz (qi rfl underlying40 rfl (jf p)) ?_)))));obtain⟨q,a⟩:=ze a
 refine zz (qp rfl rfl q) (zh (vi (j+(↑(ix f h).length:Int))) (z8 (zy ?_)));obtain⟨s,a⟩:=ze a;refine zz (qp rfl rfl s) (zb (vi (h+1)) (z8 ?_));exact⟨dkt,(RH.le.refl _),jd,(n,j+(↑(ix f h).length:Int),h+1),Nat.lt_succ_self _,⟨rfl,rfl,trivial⟩,prm,a,trivial⟩;refine jc ?_
 exact⟨dkt,k,jd,j,⟨rfl,trivial⟩,prm,(Option.some.inj a).symm,trivial⟩;rintro e x z t ⟨rfl,_⟩;refine zl (zb (vi e) (zh (vi e) (z8 (qf ?_))));obtain rfl:=Option.some.inj c;refine qb (D:=[]) (J:=[]) (rs:=[.tmp 2]) (vs:=[(vi e)]) t rfl rfl ⟨rfl,trivial⟩ ?_;exact⟨rfl,rfl⟩
theorem zp9:Enters prog 72:=enters_of func72 rfl (by kernel_rfl)
theorem zdf{N:Nat}{R:RH}{k:(List (List Int))}{b:Value}(e:VRep (tSl false (tSl false (zu .i64))) R b k){inputs:Int}{r:Int}(a:z5f N k inputs=some r):CallP prog 35 #[b,(vi inputs)] R (fun v R'=>v=(vi r)):=by
 refine qg (args:=[b,(vi inputs)]) func35 rfl rfl fun A=>?_;rw [z5f] at a;refine zl (zh (vi 0) (z8 (zt (zl (zb b (zb (vi inputs) ?_))))));obtain⟨g,l,a⟩:=zn a;refine qy rfl zq4 rfl (zdg e l) fun u w d m=>?_;obtain rfl:=m
 refine zh (vi g) (qw (zb (vi g) (zz (u6 rfl rfl) (z8 (zq rfl a (fun a=>?_) (fun a=>?_))))));refine zl (zb (vi g) (zh (vi g) (z8 (qf ?_))));obtain rfl:=Option.some.inj a;refine qb (D:=[]) (J:=[]) (rs:=[.tmp 4]) (vs:=[(vi g)]) d rfl rfl ⟨rfl,trivial⟩ ?_;exact⟨rfl,rfl⟩
 refine q8 (zt (zl (zb b ?_)));obtain⟨x,n,a⟩:=zn a;refine qy rfl zpk rfl (zdd (e.mono d) n) fun o p c h=>?_;obtain rfl:=h;refine zz (au rfl) (z8 (zq rfl a (fun a=>?_) (fun a=>?_)));refine zl (zh (vi 1) (z8 (qf ?_)));obtain rfl:=Option.some.inj a
 refine qb (D:=[]) (J:=[]) (rs:=[.tmp 4]) (vs:=[(vi 1)]) (d.trans c) rfl rfl ⟨rfl,trivial⟩ ?_;exact⟨rfl,rfl⟩;refine q8 (zt (zl (zb b ?_)));obtain⟨q,i,a⟩:=zn a;refine qy rfl zp9 rfl (zdk (e.mono (d.trans c)) i) fun s t f j=>?_;obtain rfl:=j
 refine zz (vz rfl rfl) (z8 (zq rfl a (fun a=>?_) (fun a=>?_)));refine zl (zh (vi 3) (z8 (qf ?_)));obtain rfl:=Option.some.inj a;refine qb (D:=[]) (J:=[]) (rs:=[.tmp 4]) (vs:=[(vi 3)]) ((d.trans c).trans f) rfl rfl ⟨rfl,trivial⟩ ?_;exact⟨rfl,rfl⟩;refine q8 (zl (zh (vi 0) (z8 (qf ?_))))
 obtain rfl:=Option.some.inj a;refine qb (D:=[]) (J:=[]) (rs:=[.tmp 4]) (vs:=[(vi 0)]) ((d.trans c).trans f) rfl rfl ⟨rfl,trivial⟩ ?_;exact⟨rfl,rfl⟩
theorem zpl:Enters prog 35:=enters_of func35 rfl (by kernel_rfl)
theorem z2e:FieldOk prog 46 0 0:=by
 obtain⟨i,hi,a⟩: ∃ i,prog.info? 38=some i∧i.size=1:=oz (by kernel_rfl);exact z4m underlying46 rfl rfl hi (by rw [a];rfl)
theorem zju: ∀ w,(isAgg 38).run prog w= .ok false w:=fun w=>by kernel_rfl
theorem zpj:ZeroOk prog 40 z7h vs0 24:=by
 obtain⟨i,zv,hi,a,c,d,f⟩:=z3f (P:=prog) (e:=40) (zv:=vs0) (k:=1) (b:=24) (by kernel_rfl);exact⟨i,zv,hi,a,c,d,fun R=>by subst f;exact⟨rfl,rfl⟩⟩
theorem zb6{N:Nat}{R:RH}{m:Mach}{e:Value}(f:VRep (bg false false) R e m){s:Int}{r:Int}(a:z2d N m s=some r):CallP prog 89 #[e,(vi s)] R (fun v R'=>v=(vi r)):=by
 refine qg (args:=[e,(vi s)]) func89 rfl rfl fun A=>?_;rw [z2d] at a;refine zl (wu (T:=(bg false false)) rfl rfl rfl f fun C E c n o=>?_);refine zh (vi 0) (z8 (zt (zl (zz (jo z6e rfl rfl n (f.mono c)) ?_))));obtain⟨g,p,a⟩:=zn a
 refine qy rfl zmi rfl (z4o (f.mono c) p) fun F q b t=>?_;obtain rfl:=t;refine zh (vi g) (qw (zb (vi g) (zz (u6 rfl rfl) (z8 (zq rfl a (fun a=>?_) (fun a=>?_))))));refine zl (zb (vi g) (zh (vi g) (z8 (qf ?_))));obtain rfl:=Option.some.inj a
 refine qb (D:=[]) (J:=[]) (rs:=[.tmp 4]) (vs:=[(vi g)]) (c.trans b) rfl rfl ⟨rfl,trivial⟩ ?_;exact⟨rfl,rfl⟩;refine q8 (zt (zl (jg (v:=(vi s)) rfl (za rfl) (jg rfl (j4 rfl rfl) (jg (v:=(.bool (decide (s<0)))) rfl (za rfl) (qz rfl rfl rfl rfl (fun d=>qo (v:=(vi s)) (za rfl)) fun u h=>?_))))))
 refine qz rfl rfl rfl rfl (fun d=>dx z2j z0c rfl (o.mono b)) fun w i=>?_;refine qz rfl rfl rfl rfl (fun d=>uj z9r rfl (i.1 (zo rfl d))) fun x j=>?_;refine qz rfl rfl rfl rfl (fun d=>qo (qi rfl underlying34 rfl (jf (j.1 (zo rfl d))))) fun y k=>?_
 refine qz rfl rfl rfl rfl (fun d=>qo (dm (h.1 (zo rfl d)) (k.1 (zo rfl d)))) fun z l=>?_;refine jg rfl (bv rfl rfl (fun B=>(l.1 (zo rfl B)))) (z8 (zq rfl a (fun a=>?_) (fun a=>?_)));refine zl (zh (vi 1) (z8 (qf ?_)));obtain rfl:=Option.some.inj a
 refine qb (D:=[]) (J:=[]) (rs:=[.tmp 4]) (vs:=[(vi 1)]) (c.trans b) rfl rfl ⟨rfl,trivial⟩ ?_;exact⟨rfl,rfl⟩;refine q8 (zl (zh (vi 0) (z8 (qf ?_))));obtain rfl:=Option.some.inj a;refine qb (D:=[]) (J:=[]) (rs:=[.tmp 4]) (vs:=[(vi 0)]) (c.trans b) rfl rfl ⟨rfl,trivial⟩ ?_;exact⟨rfl,rfl⟩
theorem zq3:Enters prog 89:=enters_of func89 rfl (by kernel_rfl)
theorem zcm{N:Nat}{R:RH}{m:Mach}{X:Value}(am:VRep (bg false false) R X m){s:Int}{x:(List Int)}{q:Value}(H:VRep (tSl false (zu .i64)) R q x){r:(List Int)×Int}(C:z3t N m s x=some r):CallP prog 90 #[X,(vi s),q] R (fun v R'=> ∃ u0,v= .tuple #[u0,(vi r.2)]∧VRep (tSl true (zu .i64)) R' u0 r.1):=by
 refine qg (args:=[X,(vi s),q]) func90 rfl rfl fun A=>?_;rw [z3t] at C;refine zl (wu (T:=(bg false false)) rfl rfl rfl am fun v1 R3 P h5 h2=>?_);refine zh vs0 (zh (vi 0) (qw (zb q (zz (qi rfl underlying40 rfl (jf (H.mono P))) ?_))));obtain⟨Q,C⟩:=ze C
 refine zc9 (T:=(zu .i64)) (m:=(↑x.length:Int).toNat) (c:=(↑x.length:Int).toNat) rfl underlying40 zo3 (zi rfl Q.1) (zi rfl Q.1) (Nat.le_refl _) (ze4 Q) (ze8 Q) fun y f7 ac h9=>?_;refine zh y (z8 ?_);obtain⟨t,a,C⟩:=zn C
 refine qm (γ:=(Int×List Int)×Frag) (rs [1,2,9,12,15,41]) (fun g=>[(1,(vi g.1.1))]) (fun g=>[g.2]++A) (fun g R=>t=g.1∧ORep (zu .i64) R g.2 y g.1.2∧capOf y=g.1.2.length∧True) ?_ ?_
 refine zl (zb q (zz (qi rfl underlying40 rfl (jf (H.mono P))) (zb (vi 0) (z8 (qc (qx (γ:=Nat×Int×Int×(List Int)×Frag) (rs [1,2,9,12,17,41]) (fun g=>[(1,(vi g.2.1)),(17,(vi g.2.2.1))]) (fun g=>[g.2.2.2.2]++A) (fun g R=>fo N m x g.1 g.2.1 g.2.2.1 g.2.2.2.1=some t∧ORep (zu .i64) R g.2.2.2.2 y g.2.2.2.1∧capOf y=g.2.2.2.1.length∧True) (fun g=>g.1) (N,s,0,(mk (↑x.length:Int) (0:Int)),f7) prm ⟨a,h9,(ac.trans List.length_replicate.symm),trivial⟩ ?_))))))
 clear a;rintro⟨S,n,b,E,Y⟩ aX aY I ⟨a,Z,W,_⟩;rcases S with _|S;exact qj a;replace a:fo N m x (S+1) n b E=some t:=a;rw [fo] at a;refine zl (zz (j4 rfl rfl) (z8 (zt (zq rfl a (fun a=>?_) (fun a=>?_)))))
 refine q8 (zt (qc (zl (zb (vi b) ?_))));obtain⟨ad,a⟩:=ze a;refine jq (i:=b.toNat) rfl z00 rfl (jf (H.mono (P.trans I))) (zi rfl ad.1) (zx ad) fun aZ an=>?_;refine j3 rfl ty3 rfl an fun a0 ao=>?_;obtain rfl:=qd.1 ao;refine zh (vi b) (zh (vi (ix x b)) (qw ?_))
 obtain⟨U,ap,a⟩:=zn a;refine qy rfl zo2 rfl (z8j  ap) fun a1 a2 z aq=>?_;obtain rfl:=aq;refine df rfl zjx fun F=>?_;refine ut (i:=0) (vs:=[(vi U.to),(vi U.out)]) zdh rfl rfl rfl rfl rfl rfl (ji rfl (ji rfl yo)) ?_;refine z8 ?_;obtain⟨d,o,a⟩:=zn a
 refine qm (γ:=(Int×Int)) (rs [23,33]) (fun g=>[]) (fun g=>[Y,box F [(vi g.1),(vi g.2)] 76]++A) (fun g R=>d=g∧True) ?_ ?_;refine zl (zb (vi n) (zz (u6 rfl rfl) (z8 (zq rfl o (fun o=>?_) (fun o=>?_)))));refine zy (xy rfl z2j z0c rfl (h2.mono (I.trans z)) fun a3 ar=>?_)
 refine j3 rfl z9r rfl ar fun a4 au=>?_;refine zb (vi n) ?_;obtain⟨ae,o⟩:=ze o;refine jq (i:=n.toNat) rfl zio rfl (jf au) (zi rfl ae.1) (zx ae) fun a5 av=>?_;refine j3 rfl zhf rfl av fun a6 aw=>?_;refine zb (vi (ix x b)) ?_;obtain⟨af,o⟩:=ze o
 refine jq (i:=(ix x b).toNat) rfl zlp rfl (jf aw) (zi rfl af.1) (zx af) fun a7 ax=>?_;refine j3 rfl zgq rfl ax fun a8 ay=>?_;obtain rfl:=z1o.1 ay
 refine ut (i:=0) (vs:=[(vi ((ix (ix m.rows n) (ix x b)).to)),(vi ((ix (ix m.rows n) (ix x b)).out))]) zdh rfl rfl rfl rfl rfl rfl (ji rfl (ji rfl yo)) ?_;refine z8 ?_
 exact⟨dkt,(RH.le.refl _),jd,((ix (ix m.rows n) (ix x b)).to,(ix (ix m.rows n) (ix x b)).out),trivial,⟨[],(pk 1 rfl (pk 0 rfl (List.Perm.refl _)))⟩,(Option.some.inj o).symm,trivial⟩;refine q8 ?_;exact⟨dkt,(RH.le.refl _),jd,(U.to,U.out),trivial,⟨[],(pk 1 rfl (pk 0 rfl (List.Perm.refl _)))⟩,(Option.some.inj o).symm,trivial⟩
 rintro d a9 ba K ⟨rfl,_⟩;obtain⟨aa,a⟩:=ze a
 refine z0t [7] [(fun es=>phX y),(fun es=>phX (vi b)),(fun es=>phX (.pointer (some ⟨F,1,none⟩))),(fun es=>phX (vi d.2)),(fun es=>phX (.pointer (some ⟨F,0,none⟩))),(fun es=>phX (vi d.1)),(fun es=>(fun u _=>uw (zu .i64) y E u b.toNat)),(fun es=>(fun _ _=>True)),(fun es=>phX (vi d.1))] (fun fl es R O=>(fl=[false]∧O.Perm ([Y,box F [(vi d.1),(vi d.2)] 76]++A)∧True)∨(fl=[true]∧ ∃ (fF:Frag),O.Perm ([fF,box F [(vi d.1),(vi d.2)] 76]++A)∧ORep (zu .i64) R fF y (up E b d.2)∧True)) mixed (by kernel_rfl) ⟨(zm zg),(zm zg),(zm zg),(zm zg),(zm zg),(zm zg),(zm (fun _ _ _ _ h=>h)),(fun _ _ _ _ _ h=>h),(zm zg),trivial⟩ (by rintro fl es R R' O k (⟨rfl,w,_⟩|⟨rfl,fF,w,p,_⟩);exact(.inl ⟨rfl,w,trivial⟩);exact(.inr ⟨rfl,fF,w,(p.mono k),trivial⟩)) ⟨(fun _ _ _ _ _ h=>h),(fun _ _ _ _ _ h=>h),(fun _ _ _ _ _ h=>h),(fun _ _ _ _ _ h=>h),(fun _ _ _ _ _ h=>h),(fun _ _ _ _ _ h=>h),(fun _ _ _ _ _ h=>h),(fun _ _ _ _ _ h=>h),(fun _ _ _ _ _ h=>h),trivial⟩ (fun es=> .inl ⟨rfl,(List.Perm.refl _),trivial⟩) ⟨?_,?_,?_,?_,?_,?_,?_,?_,?_,trivial⟩ fun az ag=>?_
 intro l bb fl O k G B V L;exact zk (za (G 8 rfl));intro l bc fl O k G B V L;exact zk (za (G 9 rfl));intro l be fl O k G B V L;exact zk (mf za7 (G 11 rfl));intro l bf fl O k G B V L;obtain⟨M,_⟩:=B;rcases L with⟨rfl,w,_⟩|⟨rfl,fF,w,p,_⟩;exact kz w (zk (uu (i:=1) ag3 (M rfl) rfl rfl))
 exact uo V (by kernel_rfl);intro l bh fl O k G B V L;obtain⟨M,_⟩:=B;exact zk (mf zac (G 11 rfl));intro l bi fl O k G B V L;obtain⟨M,d1,_⟩:=B;rcases L with⟨rfl,w,_⟩|⟨rfl,fF,w,p,_⟩;exact kz w (zk (uu (i:=1) ag3 (M rfl) rfl rfl));exact kz w (zk (uu (i:=1) ag3 (M rfl) rfl rfl))
 intro l bj fl O k G B V L;obtain⟨M,d1,d2,d3,d4,d5,d6,d7,_⟩:=B;exact qh (i:=b.toNat) z00 (M rfl) ((Z.mono (z.trans K)).mono k) (zi (d1 rfl) aa.1) (zx aa);intro l bk fl O k G B V hf L;obtain⟨M,d1,d2,d3,d4,d5,d6,d7,_⟩:=B;rcases L with⟨rfl,w,_⟩|⟨rfl,fF,w,p,_⟩;refine uy w ?_
 refine Eff.mono (jv (i:=b.toNat) (j:=0) ty3 ((Z.mono (z.trans K)).mono k) rfl rfl (M rfl) (zx aa) (d1 rfl) (qd.2 rfl)) ?_;rintro v R' O' hle' ⟨rfl,f,rfl,ho⟩;exact⟨trivial,.inr ⟨rfl,f,(List.Perm.refl _),ho,trivial⟩⟩;cases hf;intro l bn fl O k G B V L;obtain⟨M,d1,d2,d3,d4,d5,d6,d7,d8,d9,_⟩:=B;exact zk (ig (M rfl))
 intro bo bp bq br bs bt bu bv aA aB aC aD aE aF bw aG;rintro aT (⟨e,_⟩|⟨_,ai,w,ab,_⟩);cases e;refine⟨[],_,w,?_⟩;replace ab:ORep (zu .i64) az ai y (up E b d.2):=ab;obtain rfl:=Eq.symm aA;obtain rfl:=Eq.symm aB;obtain rfl:=Eq.symm aC;obtain rfl:=Eq.symm aD;obtain rfl:=Eq.symm aE;obtain rfl:=Eq.symm aF;obtain rfl:=Eq.symm aG
 refine z8 (zy ?_);obtain⟨aH,a⟩:=ze a;refine zz (qp rfl rfl aH) (zb (vi (b+1)) (z8 ?_))
 exact⟨dkt,((z.trans K).trans ag),jd,(S,d.1,b+1,(up E b d.2),ai),Nat.lt_succ_self _,⟨rfl,rfl,trivial⟩,⟨[box F [(vi d.1),(vi d.2)] 76],(pk 1 rfl (pk 0 rfl (List.Perm.refl _)))⟩,a,ab,(W.trans List.length_set.symm),trivial⟩;refine jc ?_
 exact⟨dkt,I,jd,((n,E),Y),⟨rfl,trivial⟩,prm,(Option.some.inj a).symm,Z,W,trivial⟩;rintro⟨t,bx⟩ bz bA aj ⟨rfl,aI,ak,_⟩;refine zl (zb y (zb (vi t.1) (zh y (zh (vi t.1) (z8 (z02 (i:=0) rfl aI fun aJ al aK=>?_))))));have aL:VRep (tSl true (zu .i64)) aJ y t.2:=(z0b aK ak);refine qf ?_
 obtain rfl:=Option.some.inj C;refine qb (D:=[]) (J:=[]) (rs:=[.tmp 6,.tmp 7]) (vs:=[y,(vi t.1)]) ((P.trans aj).trans al) rfl rfl ⟨rfl,rfl,trivial⟩ ?_;exact⟨rfl,⟨y,rfl,aL⟩⟩
theorem zpc:Enters prog 90:=enters_of func90 rfl (by kernel_rfl)
theorem z9e{N:Nat}{R:RH}{m:Mach}{j:Value}(g:VRep (bg false false) R j m){s:Int}{y:(List Int)}{e:Value}(i:VRep (tSl false (zu .i64)) R e y){r:(List Int)×Int}(a:z1h N m s y=some r):CallP prog 73 #[j,(vi s),e] R (fun v R'=> ∃ z,v= .tuple #[z,(vi r.2)]∧VRep (tSl true (zu .i64)) R' z r.1):=by
 refine qg (args:=[j,(vi s),e]) func73 rfl rfl fun A=>?_;rw [z1h] at a;refine zl (wu (T:=(bg false false)) rfl rfl rfl g fun P Q d B C=>?_);refine zh vs0 (zh (vi 0) (z8 (zt (zl (zz (jo z6e rfl rfl B (g.mono d)) (zb (vi s) ?_))))));obtain⟨k,E,a⟩:=zn a
 refine qy rfl zq3 rfl (zb6 (g.mono d) E) fun S F b G=>?_;obtain rfl:=G;refine zh (vi k) (qw (zb (vi k) (zz (u6 rfl rfl) (z8 (zq rfl a (fun a=>?_) (fun a=>?_))))));refine zl (zb (vi k) (zh vs0 (zh (vi k) (z8 (qf ?_)))));obtain rfl:=Option.some.inj a
 refine qb (D:=[]) (J:=[]) (rs:=[.tmp 6,.tmp 7]) (vs:=[vs0,(vi k)]) (d.trans b) rfl rfl ⟨rfl,rfl,trivial⟩ ?_;exact⟨rfl,⟨vs0,rfl,z1c⟩⟩;refine q8 (zt (zl (zb e (xy rfl z3v z0z rfl (C.mono b) fun H o=>?_))));refine j3 rfl ty3 rfl o fun I p=>?_;obtain rfl:=qd.1 p
 obtain⟨h,q,a⟩:=zn a;refine qy rfl zn8 rfl (z9u (i.mono (d.trans b)) q) fun K L c t=>?_;obtain rfl:=t;refine zh (vi h) (qw (zb (vi h) (zz (u6 rfl rfl) (z8 (zq rfl a (fun a=>?_) (fun a=>?_))))))
 refine zl (zb (vi h) (zh vs0 (zh (vi h) (z8 (qf ?_)))));obtain rfl:=Option.some.inj a;refine qb (D:=[]) (J:=[]) (rs:=[.tmp 6,.tmp 7]) (vs:=[vs0,(vi h)]) ((d.trans b).trans c) rfl rfl ⟨rfl,rfl,trivial⟩ ?_;exact⟨rfl,⟨vs0,rfl,z1c⟩⟩
 refine q8 (zl (zz (jo z6e rfl rfl (B.mono (b.trans c)) (g.mono ((d.trans b).trans c))) (zb (vi s) (zb e ?_))));obtain⟨l,u,a⟩:=zn a;refine qy rfl zpc rfl (zcm (g.mono ((d.trans b).trans c)) (i.mono ((d.trans b).trans c)) u) fun M O n w=>?_;obtain⟨f,rfl,x⟩:=w
 refine zb (.tuple #[f,(vi l.2)]) (zz (ja rfl rfl) (zz (ja rfl rfl) (zh f (zh (vi l.2) (qw (zb f (zh f (zh (vi 0) (z8 (qf ?_))))))))));obtain rfl:=Option.some.inj a
 refine qb (D:=[]) (J:=[]) (rs:=[.tmp 6,.tmp 7]) (vs:=[f,(vi 0)]) (((d.trans b).trans c).trans n) rfl rfl ⟨rfl,rfl,trivial⟩ ?_;exact⟨rfl,⟨f,rfl,x⟩⟩
theorem zot:Enters prog 73:=enters_of func73 rfl (by kernel_rfl)
theorem zc4{N:Nat}{R:RH}{m:Mach}{w:Value}(x:VRep (bg false false) R w m){other:Mach}{d:Value}(e:VRep (bg false false) R d other){S:(List Int)}{k:Value}(t:VRep (tSl false (zu .i64)) R k S){r:Int}(b:z2q N m other S=some r):CallP prog 36 #[w,d,k] R (fun v R'=>v=(vi r)):=by
 refine qg (args:=[w,d,k]) func36 rfl rfl fun A=>?_;rw [z2q] at b;refine zl (wu (T:=(bg false false)) rfl rfl rfl x fun v1 R3 h U h2=>?_);refine wu (T:=(bg false false)) rfl rfl rfl (e.mono h) fun v6 R8 j G h7=>?_
 refine zh (vi 0) (qw (zz (jo z6e rfl rfl (U.mono j) (x.mono (h.trans j))) (zb k ?_)));obtain⟨o,H,b⟩:=zn b;refine qy rfl zot rfl (z9e (x.mono (h.trans j)) (t.mono (h.trans j)) H) fun V W f I=>?_;obtain⟨p,rfl,B⟩:=I
 refine zb (.tuple #[p,(vi o.2)]) (zz (ja rfl rfl) (zz (ja rfl rfl) (zh p (zh (vi o.2) (qw (zz (jo z6e rfl rfl (G.mono f) (e.mono ((h.trans j).trans f))) (zb k ?_)))))));obtain⟨q,K,b⟩:=zn b
 refine qy rfl zot rfl (z9e (e.mono ((h.trans j).trans f)) (t.mono ((h.trans j).trans f)) K) fun X Y l L=>?_;obtain⟨y,rfl,M⟩:=L;refine zb (.tuple #[y,(vi q.2)]) (zz (ja rfl rfl) (zz (ja rfl rfl) (zh y (zh (vi q.2) (z8 ?_)))));obtain⟨z,a,b⟩:=zn b
 refine qm (γ:=Unit) (rs [6,7,11,12,24,40]) (fun g=>[]) (fun g=>[]++A) (fun g R=>z=Ex.go g∧True) ?_ ?_
 refine zl (zb p (zz (qi rfl underlying40 rfl (jf (B.mono l))) (zb (vi 0) (z8 (qc (qx (γ:=Nat×Int) (rs [6,7,11,12,26,40]) (fun g=>[(26,(vi g.2))]) (fun g=>[]++A) (fun g R=>dw N o q g.1 g.2=some z∧True) (fun g=>g.1) (N,0) prm ⟨a,trivial⟩ ?_))))));clear a
 rintro⟨s,c⟩ Z aa n ⟨a,_⟩;rcases s with _|s;exact qj a;replace a:dw N o q (s+1) c=some z:=a;rw [dw] at a;refine zl (zz (j4 rfl rfl) (z8 (zt (zq rfl a (fun a=>?_) (fun a=>?_)))))
 refine q8 (zt (qc (zl (zb (vi c) (zh (vi c) (z8 (zt (z3r 9 mixed (by kernel_rfl) (by kernel_rfl) ?_))))))));refine pg (v:=p) (za rfl) ?_;refine pg (v:=(vi c)) (za rfl) ?_;obtain⟨C,a⟩:=ze a
 refine z7y (rz (i:=c.toNat) z00 rfl (jf (B.mono (l.trans n))) (zi rfl C.1) (zx C)) fun ab O=>?_;refine pg (ib (uj ty3 rfl O)) ?_;refine pg (v:=y) (za rfl) ?_;refine pg (v:=(vi c)) (za rfl) ?_;obtain⟨E,a⟩:=ze a
 refine z7y (rz (i:=c.toNat) z00 rfl (jf (M.mono n)) (zi rfl E.1) (zx E)) fun ac P=>?_;refine pg (ib (uj ty3 rfl P)) ?_;refine pg (u6 rfl rfl) ?_;intro ad u;refine z8 (zq rfl a (fun a=>?_) (fun a=>?_));refine zl (zb (vi c) (zh (vi c) (z8 (qf ?_))));replace b:=mg a b
 obtain rfl:=Option.some.inj b;refine qb (D:=[]) (J:=[]) (rs:=[.tmp 6]) (vs:=[(vi c)]) (((((h.trans j).trans f).trans l).trans n).trans u) rfl rfl ⟨rfl,trivial⟩ ?_;exact⟨rfl,rfl⟩;refine q8 (zy ?_);obtain⟨Q,a⟩:=ze a;refine zz (qp rfl rfl Q) (zb (vi (c+1)) (z8 ?_))
 exact⟨dkt,u,jd,(s,c+1),Nat.lt_succ_self _,⟨rfl,trivial⟩,prm,a,trivial⟩;refine jc ?_;exact⟨dkt,n,jd,(),trivial,prm,(Option.some.inj a).symm,trivial⟩;rintro ae af ag F ⟨rfl,_⟩;replace b:=ll b;refine zl (zh (vi (-1)) (z8 (qf ?_)));obtain rfl:=Option.some.inj b
 refine qb (D:=[]) (J:=[]) (rs:=[.tmp 6]) (vs:=[(vi (-1))]) ((((h.trans j).trans f).trans l).trans F) rfl rfl ⟨rfl,trivial⟩ ?_;exact⟨rfl,rfl⟩
end GV
end Go.Proofs.YtkhihcleegljhaaGreat
