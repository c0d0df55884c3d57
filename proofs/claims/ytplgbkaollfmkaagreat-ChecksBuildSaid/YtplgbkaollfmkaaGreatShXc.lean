import Derived.Test.YtplgbkaollfmkaaGreatShXb
import Derived.Test.YtplgbkaollfmkaaGreatRows
set_option linter.unusedVariables false
set_option linter.unusedSimpArgs false
namespace Go.Proofs.YtplgbkaollfmkaaGreat
namespace GV
open _root_.Go.Proofs.Tryz
open Go.IntWalk
set_option maxRecDepth 100000
set_option maxHeartbeats 20000000
theorem qb8:Enters prog 45:=enters_of func45 rfl (by kernel_rfl)
theorem zep{N:Nat}{R:RH}{x:Sm}{c:Value}(h:VRep (z0n false false) R c x){r:Mach}(b:z0v N x=some r):CallP prog 20 #[c] R (fun v R'=>VRep (je false false) R' v r):=by
 refine qf (args:=[c]) func20 rfl rfl fun A=>?_;rw [z0v] at b;refine zn ?_;obtain⟨n,o,rfl,p,q⟩:=zdl h;refine zvm (cs:=[(.int .u8 x.fO.fB),(.int .u8 x.fO.fA),(.int .u8 x.fO.fC),n,o]) rfl rfl rfl fun s=>?_;refine uq rfl zn5 fun t=>?_
 refine qw (zt (qb zul rfl) (zt (qb zvf rfl) (zt (qd (i:=1) ag5 rfl rfl rfl) ?_)));obtain⟨u,b⟩:=ze b;refine zt (z5z rfl rfl u) (zt (qb zul rfl) (zt (qb zvf rfl) (jo (i:=1) (vs:=[(.int .u8 (x.fO.fB%5))]) sz5 rfl rfl rfl rfl rfl rfl (qg rfl kg) ?_)))
 refine qw (zt (qb zul rfl) (zt (yg (i:=1) qc0 qbv rfl rfl rfl rfl) ?_));obtain⟨y,j,b⟩:=zq b
 refine jb rfl qa2 rfl (zer (⟨_,⟨_,_,rfl,rfl,⟨_,_,rfl,rfl,⟨_,_,rfl,rfl,⟨_,_,rfl,(ku rfl p),(ku rfl q)⟩⟩⟩⟩,rfl⟩:VRep (il false false) _ _ (⟨x.fO.fB%5,x.fO.fA,x.fO.fC,x.fO.fI,x.fO.fD⟩:Sd)) j) fun z B e k=>?_;obtain⟨a,l,b⟩:=zq b
 refine jb rfl qb8 rfl (zcu k l) fun C E f m=>?_;obtain⟨d,rfl,g⟩:=z6u m;refine jo (i:=0) (vs:=[(vi a.inputs),(vi a.outputs),d]) z6y rfl rfl rfl rfl rfl rfl (qg rfl (qg rfl (qg (z5g g) kg))) ?_;refine z8 (qx ?_);obtain rfl:=Option.some.inj b
 refine qc (D:=[]) (J:=[box t [(vi a.inputs),(vi a.outputs),d] 32,box s [(.int .u8 (x.fO.fB%5)),(.int .u8 x.fO.fA),(.int .u8 x.fO.fC),n,o] 27]) (rs:=[.cell 2 32]) (vs:=[(.agg #[(vi a.inputs),(vi a.outputs),d])]) (e.trans f) rfl rfl ⟨⟨_,rfl,fun w F=>z3v (i:=0) F rfl rfl zbg z6y rfl rfl⟩,trivial⟩ ?_
 exact⟨rfl,(⟨_,⟨_,_,rfl,rfl,⟨_,_,rfl,rfl,(ku rfl g)⟩⟩,rfl⟩:VRep (je false false) _ _ (⟨a.inputs,a.outputs,a.rows⟩:Mach))⟩
theorem qbd:Enters prog 20:=enters_of func20 rfl (by kernel_rfl)
theorem q76:FieldOk prog 29 1 5:=by
 obtain⟨i,hi,a⟩: ∃ i,prog.info? 22=some i∧i.size=1:=ky (by kernel_rfl);exact ul underlying29 rfl rfl hi (by rw [a];rfl)
theorem en7:Enters prog 7:=enters_of func7 rfl (by kernel_rfl)
theorem z9q{N:Nat}{R:RH}{x:Sg}{j:Value}(p:VRep (iq false false false) R j x){r:Mach×(List Int)}(c:lw N x=some r):CallP prog 6 #[j] R (fun v R'=> ∃ H I,v= .tuple #[H,I]∧VRep (je false false) R' H r.1∧VRep (tSl false (zw .i64)) R' I r.2):=by
 refine qf (args:=[j]) func6 rfl rfl fun A=>?_;rw [lw] at c;refine zn (jy (T:=(iq false false false)) rfl rfl rfl p fun v1 R3 q h5 K=>?_);refine uq rfl zn5 fun M=>?_;refine zi vs0 (qw (jg rfl q6y zes rfl K fun v8 O=>?_))
 refine qo rfl qby rfl O fun P s=>?_;obtain⟨a,t,c⟩:=zq c;refine jb rfl qbd rfl (zep s t) fun Q S f u=>?_;refine uq rfl zn5 fun n=>?_;obtain⟨b,rfl,k⟩:=z6u u
 refine jo (i:=0) (vs:=[(vi a.inputs),(vi a.outputs),b]) z6y rfl rfl rfl rfl rfl rfl (qg rfl (qg rfl (qg (z5g k) kg))) ?_;refine z8 (qa ?_);obtain⟨y,z,c⟩:=zq c
 refine cu 6 [] [phX (.agg #[(vi a.inputs),(vi a.outputs),b]),phP (tSl false (zw .u8)) x.fU,phR (tSl false (zw .u8)) x.fU,phX (.pointer (some ⟨n,0,none⟩)),phX (vi a.inputs),phR (tSl false (zw .i64)) y] mixed (by kernel_rfl) (ym ⟨zk,yl,pq,zk,zk,pq,trivial⟩) ⟨?_,?_,?_,?_,?_,?_,trivial⟩ fun U e=>?_
 intro l V d g L;exact za rfl rfl rfl (zo (yg (i:=0) zbg z6y (g 4 rfl) rfl rfl rfl));intro l W d g L;exact za rfl rfl rfl (si q76 zfg (g 1 rfl) ((K.mono f).mono d));rintro l X d g ⟨o,_⟩;exact za rfl rfl rfl (u7 q7l rfl (o rfl));intro l Y d g L
 exact za rfl rfl rfl (zo (qb ll (g 4 rfl)));rintro l Z d g ⟨o,_⟩;exact za rfl rfl rfl (zo (qd (i:=0) ag3 (o rfl) rfl rfl));rintro l aa d g ⟨o,d1,_⟩;have B:l 12=(vi a.inputs):=d1 rfl
 exact za rfl rfl rfl (ut (vs:=[(l 10),(vi a.inputs),(vi 6)]) en7 (by simp only [List.map,ev,B]<;>rfl) (z9p (o rfl) z) (fun _ _ h=>h));intro ac C ad ae af ag ah E ai F m G;obtain rfl:=Eq.symm C;obtain rfl:=Eq.symm E;obtain rfl:=Eq.symm F
 refine jo (i:=1) (vs:=[(vi a.inputs),(vi a.outputs),b]) z6y rfl rfl rfl rfl rfl rfl (qg rfl (qg rfl (qg (z5g (k.mono e)) kg))) ?_;refine zi m (z8 (qx ?_));obtain rfl:=Option.some.inj c
 refine qc (D:=[]) (J:=[box n [(vi a.inputs),(vi a.outputs),b] 32,box M [(vi a.inputs),(vi a.outputs),b] 32]) (rs:=[.cell 2 32,.tmp 3]) (vs:=[(.agg #[(vi a.inputs),(vi a.outputs),b]),m]) ((q.trans f).trans e) rfl rfl ⟨⟨_,rfl,fun w hh=>z3v (i:=1) hh rfl rfl zbg z6y rfl rfl⟩,rfl,trivial⟩ ?_
 exact⟨rfl,⟨(.agg #[(vi a.inputs),(vi a.outputs),b]),m,rfl,(⟨_,⟨_,_,rfl,rfl,⟨_,_,rfl,rfl,(ku rfl (k.mono e))⟩⟩,rfl⟩:VRep (je false false) _ _ (⟨a.inputs,a.outputs,a.rows⟩:Mach)),G⟩⟩
theorem en6:Enters prog 6:=enters_of func6 rfl (by kernel_rfl)
theorem zvr: ∀ w,∃ z,(zeroValue 39).run prog w= .ok z w∧z.cells=([.bool false,.slice none 0 0,.slice none 0 0]:List Value).toArray:=fun w=>⟨(.agg #[(.bool false),vs0,vs0]),by kernel_rfl,rfl⟩
theorem zas{N:Nat}{R:RH}{s:(List Edge)}{c:Value}(k:VRep (tSl false kEdge) R c s){f:Edge→Option Bool}{e:Value}(n:FOk1 prog R e kEdge jl f){r:Int}(b:z0f N s f=some r):CallP prog 92 #[c,e] R (fun v R'=>v=(vi r)):=by
 refine qf (args:=[c,e]) func92 rfl rfl fun A=>?_;rw [z0f] at b;refine zn (zi (vi 0) (z8 ?_));obtain⟨o,a,b⟩:=zq b;refine qm (γ:=Unit) (rs [4,19]) (fun g=>[]) (fun g=>[]++A) (fun g R=>o=Ex.go g∧True) ?_ ?_
 refine zn (zg c (zt (qj rfl underlying97 rfl (j3 k)) (zg (vi 0) (z8 (zy (ja (γ:=Nat×Int) (rs [4,6,8,19]) (fun g=>[(8,(vi g.2))]) (fun g=>[]++A) (fun g R=>uz N s f g.1 g.2=some o∧True) (fun g=>g.1) (N,0) prm ⟨a,trivial⟩ ?_))))));clear a;rintro⟨m,d⟩ y H h ⟨a,_⟩
 rcases m with _|m;exact qp a;replace a:uz N s f (m+1) d=some o:=a;rw [uz] at a;refine zn (zt (j5 rfl rfl) (z8 (qa (zu rfl a (fun a=>?_) (fun a=>?_)))))
 refine q9 (qa (zy (zn (zg (vi d) (zi (vi d) (qw (zg e (zg c (zg (vi d) ?_)))))))));obtain⟨l,a⟩:=ze a;refine ko (i:=d.toNat) rfl zaf rfl (j3 (k.mono h)) (zf rfl l.1) (zz l) fun z p=>?_;refine qo rfl zai rfl p fun B q=>?_;obtain rfl:=z0c.1 q
 obtain⟨C,t,a⟩:=zq a;refine zmq rfl rfl rfl ((n.mono h) _ (RH.le.refl _) (ix s d) _ _ (z0c.2 rfl) t) fun E F j u=>?_;obtain rfl:=uj.1 u;refine z8 (zu rfl a (fun a=>?_) (fun a=>?_));refine zn (zg (vi d) (zi (vi d) (z8 (qx ?_))));replace b:=z3f a b;obtain rfl:=Option.some.inj b
 refine qc (D:=[]) (J:=[]) (rs:=[.tmp 4]) (vs:=[(vi d)]) (h.trans j) rfl rfl ⟨rfl,trivial⟩ ?_;exact⟨rfl,rfl⟩;refine q9 (zx ?_);obtain⟨w,a⟩:=ze a;refine zt (qz rfl rfl w) (zg (vi (d+1)) (z8 ?_));exact⟨dkt,j,jd,(m,d+1),Nat.lt_succ_self _,⟨rfl,trivial⟩,prm,a,trivial⟩;refine jf ?_
 exact⟨dkt,h,jd,(),trivial,prm,(Option.some.inj a).symm,trivial⟩;rintro I G K x ⟨rfl,_⟩;replace b:=z5c b;refine zn (zi (vi (-1)) (z8 (qx ?_)));obtain rfl:=Option.some.inj b;refine qc (D:=[]) (J:=[]) (rs:=[.tmp 4]) (vs:=[(vi (-1))]) x rfl rfl ⟨rfl,trivial⟩ ?_;exact⟨rfl,rfl⟩
theorem qbp:Enters prog 92:=enters_of func92 rfl (by kernel_rfl)
theorem z96{N:Nat}{R:RH}{s:(List Edge)}{a:Value}(d:VRep (tSl false kEdge) R a s){f:Edge→Option Bool}{b:Value}(e:FOk1 prog R b kEdge jl f){r:Bool}(c:rq N s f=some r):CallP prog 77 #[a,b] R (fun v R'=>v=(.bool r)):=by
 refine qf (args:=[a,b]) func77 rfl rfl fun A=>?_;rw [rq] at c;refine zn (zi (.bool false) (qw (zg a (zg b ?_))));obtain⟨h,i,c⟩:=zq c;refine jb rfl qbp rfl (zas d e i) fun k l g j=>?_;obtain rfl:=j
 refine zt (z2z rfl rfl) (zi (.bool (decide (0≤h))) (z8 (qx ?_)));obtain rfl:=Option.some.inj c;refine qc (D:=[]) (J:=[]) (rs:=[.tmp 4]) (vs:=[(.bool (decide (0≤h)))]) g rfl rfl ⟨rfl,trivial⟩ ?_;exact⟨rfl,rfl⟩
theorem qbn:Enters prog 77:=enters_of func77 rfl (by kernel_rfl)
theorem zab{N:Nat}{R:RH}  {r:Edge} (a:z3t N  =some r):CallP prog 93 #[] R (fun v R'=>v=(z2o r)):=by
 refine qf (args:=[]) func93 rfl rfl fun A=>?_;rw [z3t] at a;refine zn (uq rfl za1 fun b=>?_)
 refine qw (zt (yw (ps:=[(0,(vi (-1))),(1,(vi (-1)))]) (v:=(.agg #[(vi (-1)),(vi (-1))])) rfl (fun w=>by kernel_rfl)) (jo (i:=0) (vs:=[(vi (-1)),(vi (-1))]) z6j rfl rfl rfl rfl rfl rfl (qg rfl (qg rfl kg)) ?_));refine z8 (qx ?_);obtain rfl:=Option.some.inj a
 refine qc (D:=[]) (J:=[box b [(vi (-1)),(vi (-1))] 100]) (rs:=[.cell 0 100]) (vs:=[(.agg #[(vi (-1)),(vi (-1))])]) (RH.le.refl _) rfl rfl ⟨⟨_,rfl,fun w c=>z3v (i:=0) c rfl rfl zpf z6j rfl rfl⟩,trivial⟩ ?_;exact⟨rfl,rfl⟩
theorem q6j:Enters prog 93:=enters_of func93 rfl (by kernel_rfl)
theorem q5u:zoy prog 100:=zq7 (f0:=((prog.fieldsOf 100).toList.getD 0 default)) (f1:=((prog.fieldsOf 100).toList.getD 1 default)) (by kernel_rfl) (by kernel_rfl) (by kernel_rfl) (by kernel_rfl) (by kernel_rfl) (by kernel_rfl) (by kernel_rfl) (by kernel_rfl) (by kernel_rfl) (by kernel_rfl)
theorem zkr{N:Nat}{R:RH}{m:Mach}{p:Value}(w:VRep (je false false) R p m){x:Edge}{r:Bool}(n:zc6 N m x=some r):CallP prog 79 #[p,(z2o x)] R (fun v R'=>v=(.bool r)):=by
 refine qf (args:=[p,(z2o x)]) func79 rfl rfl fun A=>?_;rw [zc6] at n;refine zn (jy (T:=(je false false)) rfl rfl rfl w fun v1 R3 y h5 K=>?_);refine zhv (T:=kEdge) rfl rfl (z0c.2 rfl) fun v6 R8 q t=>?_;refine zi (.bool false) (z8 (qa ?_));obtain⟨b,z,n⟩:=zq n
 let B:=((decide (x.to=b.to∧x.out=b.out))||((((decide (0≤x.to))&&(decide (x.to<(↑m.rows.length:Int))))&&(decide (0≤x.out)))&&(decide (x.out<m.outputs))));let L:=((((decide (0≤x.to))&&(decide (x.to<(↑m.rows.length:Int))))&&(decide (0≤x.out)))&&(decide (x.out<m.outputs)))
 let o:=(((decide (0≤x.to))&&(decide (x.to<(↑m.rows.length:Int))))&&(decide (0≤x.out)));let k:=((decide (0≤x.to))&&(decide (x.to<(↑m.rows.length:Int))));let e:=(true&&((decide (x.to=b.to∧x.out=b.out))==false))
 refine cu 29 [] [phX (z2o x),phX (z2o b),phX (.bool (decide (x.to=b.to∧x.out=b.out))),phX (.bool (decide (x.to=b.to∧x.out=b.out))),phG e (phP (zw .i64) x.to),phG e (phX (vi x.to)),phG e (phX (.bool (decide (0≤x.to)))),phG e (phX (.bool (decide (0≤x.to)))),phG (e&&((decide (0≤x.to))==true)) (phP (zw .i64) x.to),phG (e&&((decide (0≤x.to))==true)) (phX (vi x.to)),phG (e&&((decide (0≤x.to))==true)) (phP (tSl false (tSl false kEdge)) m.rows),phG (e&&((decide (0≤x.to))==true)) (phR (tSl false (tSl false kEdge)) m.rows),phG (e&&((decide (0≤x.to))==true)) (phX (vi (↑m.rows.length:Int))),phG (e&&((decide (0≤x.to))==true)) (phX (.bool (decide (x.to<(↑m.rows.length:Int))))),phG e (phX (.bool k)),phG e (phX (.bool k)),phG (e&&(k==true)) (phP (zw .i64) x.out),phG (e&&(k==true)) (phX (vi x.out)),phG (e&&(k==true)) (phX (.bool (decide (0≤x.out)))),phG e (phX (.bool o)),phG e (phX (.bool o)),phG (e&&(o==true)) (phP (zw .i64) x.out),phG (e&&(o==true)) (phX (vi x.out)),phG (e&&(o==true)) (phP (zw .i64) m.outputs),phG (e&&(o==true)) (phX (vi m.outputs)),phG (e&&(o==true)) (phX (.bool (decide (x.out<m.outputs)))),phG e (phX (.bool L)),phX (.bool B),phX (.bool B)] mixed (by kernel_rfl) (ym ⟨zk,zk,zk,zk,(qi yl),(qi zk),(qi zk),(qi zk),(qi yl),(qi zk),(qi yl),(qi pq),(qi zk),(qi zk),(qi zk),(qi zk),(qi yl),(qi zk),(qi zk),(qi zk),(qi zk),(qi yl),(qi zk),(qi yl),(qi zk),(qi zk),(qi zk),zk,zk,trivial⟩) ⟨?_,?_,?_,?_,?_,?_,?_,?_,?_,?_,?_,?_,?_,?_,?_,?_,?_,?_,?_,?_,?_,?_,?_,?_,?_,?_,?_,?_,?_,trivial⟩ fun ai u=>?_
 intro l aj a g hd;exact za rfl rfl rfl (uo (u7 zai (g 3 rfl) (t.mono a)) (fun _ _ h=>z0c.1 h));intro l al a g hd;exact za rfl rfl rfl (ut (vs:=[]) q6j rfl (zab  z) (fun _ _ h=>h));rintro l am a g ⟨c,f,_⟩;exact za rfl rfl rfl (zo (zs7 q5u (c rfl) (f rfl)));rintro l an a g ⟨c,f,_⟩
 exact za rfl rfl rfl (zo (zb (c rfl)));rintro l ao a g ⟨c,_⟩;exact zl (Gj:=true) (Bj:=decide (x.to=b.to∧x.out=b.out)) rfl rfl rfl (jc (c rfl)) rfl (fun i d=>si o8 z5w (g 3 rfl) (t.mono a));rintro l ap a g ⟨c,f,_⟩
 exact zl (Gj:=true) (Bj:=decide (x.to=b.to∧x.out=b.out)) rfl rfl rfl (jc (f rfl)) rfl (fun i d=>uo (u7 ty3 rfl ((c rfl).1 (zm rfl d))) (fun _ _ h=>j6.1 h));rintro l aq a g ⟨c,f,_⟩
 exact zl (Gj:=true) (Bj:=decide (x.to=b.to∧x.out=b.out)) rfl rfl rfl (jc (f rfl)) rfl (fun i d=>zo (z2z (show l 10=(vi x.to) from(c rfl).1 (zm rfl d)) rfl));rintro l ar a g ⟨c,f,j,_⟩
 exact zl (Gj:=true) (Bj:=decide (x.to=b.to∧x.out=b.out)) rfl rfl rfl (jc (f rfl)) rfl (fun i d=>zo (zb (show l 11=(.bool (decide (0≤x.to))) from(c rfl).1 (zm rfl d))));rintro l au a g ⟨c,_⟩;exact zl (Gj:=e) (Bj:=decide (0≤x.to)) rfl rfl rfl (c rfl) rfl (fun i d=>si o8 z5w (g 3 rfl) (t.mono a))
 rintro l av a g ⟨c,f,_⟩;exact zl (Gj:=e) (Bj:=decide (0≤x.to)) rfl rfl rfl (f rfl) rfl (fun i d=>uo (u7 ty3 rfl ((c rfl).1 (zm i d))) (fun _ _ h=>j6.1 h));rintro l M a g ⟨c,_⟩;exact zl (Gj:=e) (Bj:=decide (0≤x.to)) rfl rfl rfl (c rfl) rfl (fun i d=>si uy u6 (g 2 rfl) ((K.mono q).mono a))
 rintro l O a g ⟨c,f,_⟩;exact zl (Gj:=e) (Bj:=decide (0≤x.to)) rfl rfl rfl (f rfl) rfl (fun i d=>u7 z1z rfl ((c rfl).1 (zm i d)));rintro l P a g ⟨c,f,_⟩;exact zl (Gj:=e) (Bj:=decide (0≤x.to)) rfl rfl rfl (f rfl) rfl (fun i d=>zo (qj rfl underlying30 rfl (j3 ((c rfl).1 (zm i d)))))
 rintro l Q a g ⟨c,f,j,_⟩;exact zl (Gj:=e) (Bj:=decide (0≤x.to)) rfl rfl rfl (j rfl) rfl (fun i d=>zo (j5 (show l 14=(vi x.to) from(c rfl).1 (zm i d)) (show l 17=(vi (↑m.rows.length:Int)) from(f rfl).1 (zm i d))));rintro l S a g ⟨c,f,j,_⟩
 exact zl (Gj:=true) (Bj:=decide (x.to=b.to∧x.out=b.out)) rfl rfl rfl (jc (j rfl)) rfl (fun i d=>zo (wu (show l 12=(.bool (decide (0≤x.to))) from(c rfl).1 (zm rfl d)) (fun s=>(show l 18=(.bool (decide (x.to<(↑m.rows.length:Int)))) from(f rfl).1 (zm (zm rfl d) s))) rfl));rintro l U a g ⟨c,f,j,_⟩
 exact zl (Gj:=true) (Bj:=decide (x.to=b.to∧x.out=b.out)) rfl rfl rfl (jc (j rfl)) rfl (fun i d=>zo (zb (show l 19=(.bool k) from(c rfl).1 (zm rfl d))));rintro l V a g ⟨c,_⟩
 exact zl (Gj:=e) (Bj:=(decide (0≤x.to))&&(decide (x.to<(↑m.rows.length:Int)))) rfl rfl rfl (c rfl) rfl (fun i d=>si z8l zs3 (g 3 rfl) (t.mono a));rintro l W a g ⟨c,f,_⟩
 exact zl (Gj:=e) (Bj:=(decide (0≤x.to))&&(decide (x.to<(↑m.rows.length:Int)))) rfl rfl rfl (f rfl) rfl (fun i d=>uo (u7 ty3 rfl ((c rfl).1 (zm i d))) (fun _ _ h=>j6.1 h));rintro l X a g ⟨c,f,_⟩
 exact zl (Gj:=e) (Bj:=(decide (0≤x.to))&&(decide (x.to<(↑m.rows.length:Int)))) rfl rfl rfl (f rfl) rfl (fun i d=>zo (z2z (show l 22=(vi x.out) from(c rfl).1 (zm i d)) rfl));rintro l Y a g ⟨c,f,j,_⟩
 exact zl (Gj:=true) (Bj:=decide (x.to=b.to∧x.out=b.out)) rfl rfl rfl (jc (j rfl)) rfl (fun i d=>zo (wu (show l 20=(.bool k) from(c rfl).1 (zm rfl d)) (fun s=>(show l 23=(.bool (decide (0≤x.out))) from(f rfl).1 (zm (zm rfl d) s))) rfl));rintro l Z a g ⟨c,f,j,_⟩
 exact zl (Gj:=true) (Bj:=decide (x.to=b.to∧x.out=b.out)) rfl rfl rfl (jc (j rfl)) rfl (fun i d=>zo (zb (show l 24=(.bool o) from(c rfl).1 (zm rfl d))));rintro l aa a g ⟨c,_⟩;exact zl (Gj:=e) (Bj:=k&&(decide (0≤x.out))) rfl rfl rfl (c rfl) rfl (fun i d=>si z8l zs3 (g 3 rfl) (t.mono a))
 rintro l ab a g ⟨c,f,_⟩;exact zl (Gj:=e) (Bj:=k&&(decide (0≤x.out))) rfl rfl rfl (f rfl) rfl (fun i d=>uo (u7 ty3 rfl ((c rfl).1 (zm i d))) (fun _ _ h=>j6.1 h));rintro l ac a g ⟨c,_⟩
 exact zl (Gj:=e) (Bj:=k&&(decide (0≤x.out))) rfl rfl rfl (c rfl) rfl (fun i d=>si zf9 zbf (g 2 rfl) ((K.mono q).mono a));rintro l ad a g ⟨c,f,_⟩;exact zl (Gj:=e) (Bj:=k&&(decide (0≤x.out))) rfl rfl rfl (f rfl) rfl (fun i d=>uo (u7 ty3 rfl ((c rfl).1 (zm i d))) (fun _ _ h=>j6.1 h))
 rintro l ae a g ⟨c,f,j,_⟩;exact zl (Gj:=e) (Bj:=k&&(decide (0≤x.out))) rfl rfl rfl (j rfl) rfl (fun i d=>zo (j5 (show l 27=(vi x.out) from(c rfl).1 (zm i d)) (show l 29=(vi m.outputs) from(f rfl).1 (zm i d))));rintro l af a g ⟨c,f,j,_⟩
 exact zl (Gj:=true) (Bj:=decide (x.to=b.to∧x.out=b.out)) rfl rfl rfl (jc (j rfl)) rfl (fun i d=>zo (wu (show l 25=(.bool o) from(c rfl).1 (zm rfl d)) (fun s=>(show l 30=(.bool (decide (x.out<m.outputs))) from(f rfl).1 (zm (zm rfl d) s))) rfl));rintro l ag a g ⟨c,f,_⟩
 exact za rfl rfl rfl (zo (z0l (c rfl) rfl (fun s=>(show l 31=(.bool L) from(f rfl).1 (zm rfl s)))));rintro l ah a g ⟨c,f,j,d3,d4,d5,d6,d7,d8,d9,aw,ax,ay,az,aA,aB,aC,aD,aE,aF,aG,aH,aI,aJ,aK,aL,aM,aN,aO,aP,_⟩;exact za rfl rfl rfl (zo (z0m (c rfl)))
 intro aQ C aR E aS F aT G aU aV aW aX aY aZ a0 a1 a2 a3 a4 a5 a6 a7 a8 a9 ba bb bc be bf bg bh bi bj bk bl bm bn bo bp bq br bs bt bu bv bw bx bz bA bB bC bD bE bF bG H bH I;obtain rfl:=Eq.symm C;obtain rfl:=Eq.symm E;obtain rfl:=Eq.symm F;obtain rfl:=Eq.symm G;obtain rfl:=Eq.symm H;obtain rfl:=Eq.symm I
 refine z8 (qx ?_);obtain rfl:=Option.some.inj n;refine qc (D:=[]) (J:=[]) (rs:=[.tmp 4]) (vs:=[(.bool B)]) ((y.trans q).trans u) rfl rfl ⟨rfl,trivial⟩ ?_;exact⟨rfl,rfl⟩
theorem qbt:Enters prog 79:=enters_of func79 rfl (by kernel_rfl)
theorem zhe{N:Nat}{R:RH}{x:Edge}{p0_:Mach}{a:Value}(c:PRep (je false false) R a p0_){r:Bool}(b:z94 N x p0_=some r):CallP prog 78 #[(z2o x),a] R (fun v R'=>v=(.bool r)):=by
 refine qf (args:=[(z2o x),a]) func78 rfl rfl fun A=>?_;rw [z94] at b;refine zn (zhv (T:=kEdge) rfl rfl (z0c.2 rfl) fun n o d i=>?_);refine zi (.bool false) (qw (qo rfl fe rfl (c.mono d) fun p j=>?_));refine qo rfl zai rfl i fun q k=>?_;obtain rfl:=z0c.1 k
 obtain⟨h,f,b⟩:=zq b;refine jb rfl qbt rfl (zkr j f) fun l m e g=>?_;obtain rfl:=g;refine zt (lu rfl) (zi (.bool (!h)) (z8 (qx ?_)));obtain rfl:=Option.some.inj b;refine qc (D:=[]) (J:=[]) (rs:=[.tmp 3]) (vs:=[(.bool (!h))]) (d.trans e) rfl rfl ⟨rfl,trivial⟩ ?_;exact⟨rfl,rfl⟩
theorem qb4:Enters prog 78:=enters_of func78 rfl (by kernel_rfl)
theorem z3z{N:Nat}{R:RH}{m:Mach}{q:Value}(F:VRep (je false false) R q m){r:Int}(b:z00 N m=some r):CallP prog 56 #[q] R (fun v R'=>v=(vi r)):=by
 refine qf (args:=[q]) func56 rfl rfl fun A=>?_;rw [z00] at b;refine zn (jy (T:=(je false false)) rfl rfl rfl F fun E R3 k h5 l=>?_);refine zi (vi 0) (z8 (qa (zn (zjz rfl (w9 ll lh rfl l) fun v6 h7=>?_))))
 refine jm rfl (ow (jr ty3 rfl h7)) (jm rfl (z4n rfl rfl) (jm (v:=(.bool (decide (16<m.inputs)))) rfl (zb rfl) (j4 rfl rfl rfl rfl (fun c=>w9 zf9 zbf rfl l) fun ak G=>?_)));refine j4 rfl rfl rfl rfl (fun c=>qy (ow (jr ty3 rfl (G.1 (zm rfl c))))) fun al H=>?_
 refine j4 rfl rfl rfl rfl (fun c=>qy (z4n (H.1 (zm rfl c)) rfl)) fun am I=>?_;refine jm rfl (z0l rfl rfl (fun n=>(I.1 (zm rfl n)))) (jm (v:=(.bool ((decide (16<m.inputs))||(decide (16<m.outputs))))) rfl (zb rfl) (j4 rfl rfl rfl rfl (fun c=>w9 uy u6 rfl l) fun an K=>?_))
 refine j4 rfl rfl rfl rfl (fun c=>jr z1z rfl (K.1 (zm rfl c))) fun ao L=>?_;refine j4 rfl rfl rfl rfl (fun c=>qy (qj rfl underlying30 rfl (j3 (L.1 (zm rfl c))))) fun ap M=>?_;refine j4 rfl rfl rfl rfl (fun c=>qy (z4n (M.1 (zm rfl c)) rfl)) fun aq O=>?_
 refine jm rfl (z0l rfl rfl (fun n=>(O.1 (zm rfl n)))) (z8 (zu rfl b (fun b=>?_) (fun b=>?_)));refine zn (zi (vi 3) (z8 (qx ?_)));obtain rfl:=Option.some.inj b;refine qc (D:=[]) (J:=[]) (rs:=[.tmp 2]) (vs:=[(vi 3)]) k rfl rfl ⟨rfl,trivial⟩ ?_;exact⟨rfl,rfl⟩
 refine q9 (qa (zn (zjz rfl (w9 ll lh rfl l) fun ar P=>?_)));refine jm rfl (ow (jr ty3 rfl P)) (jm rfl (j5 rfl rfl) (jm (v:=(.bool (decide (m.inputs<1)))) rfl (zb rfl) (j4 rfl rfl rfl rfl (fun c=>w9 zf9 zbf rfl l) fun au Q=>?_)))
 refine j4 rfl rfl rfl rfl (fun c=>qy (ow (jr ty3 rfl (Q.1 (zm rfl c))))) fun av S=>?_;refine j4 rfl rfl rfl rfl (fun c=>qy (j5 (S.1 (zm rfl c)) rfl)) fun aw U=>?_
 refine jm rfl (z0l rfl rfl (fun n=>(U.1 (zm rfl n)))) (jm (v:=(.bool ((decide (m.inputs<1))||(decide (m.outputs<1))))) rfl (zb rfl) (j4 rfl rfl rfl rfl (fun c=>w9 uy u6 rfl l) fun ax V=>?_));refine j4 rfl rfl rfl rfl (fun c=>jr z1z rfl (V.1 (zm rfl c))) fun ay W=>?_
 refine j4 rfl rfl rfl rfl (fun c=>qy (qj rfl underlying30 rfl (j3 (W.1 (zm rfl c))))) fun az X=>?_;refine j4 rfl rfl rfl rfl (fun c=>qy (j5 (X.1 (zm rfl c)) rfl)) fun aA Y=>?_;refine jm rfl (z0l rfl rfl (fun n=>(Y.1 (zm rfl n)))) (z8 (zu rfl b (fun b=>?_) (fun b=>?_)))
 refine zn (zi (vi 1) (z8 (qx ?_)));obtain rfl:=Option.some.inj b;refine qc (D:=[]) (J:=[]) (rs:=[.tmp 2]) (vs:=[(vi 1)]) k rfl rfl ⟨rfl,trivial⟩ ?_;exact⟨rfl,rfl⟩;refine q9 ?_;obtain⟨s,a,b⟩:=zq b;refine qm (γ:=Unit) (rs [2,3,4,5,33,51]) (fun g=>[]) (fun g=>[]++A) (fun g R=>s=Ex.go g∧True) ?_ ?_
 refine zn (jg rfl uy u6 rfl l fun aB Z=>?_);refine qo rfl z1z rfl Z fun aC t=>?_
 refine zt (qj rfl underlying30 rfl (j3 t)) (zg (vi 0) (z8 (zy (ja (γ:=Nat×Int) (rs [2,3,4,5,36,51]) (fun g=>[(36,(vi g.2))]) (fun g=>[]++A) (fun g R=>lg N m g.1 g.2=some s∧True) (fun g=>g.1) (N,0) prm ⟨a,trivial⟩ ?_))));clear a;rintro⟨o,e⟩ ah aD d ⟨a,_⟩;rcases o with _|o
 exact qp a;replace a:lg N m (o+1) e=some s:=a;rw [lg] at a;refine zn (zt (j5 rfl rfl) (z8 (qa (zu rfl a (fun a=>?_) (fun a=>?_)))));refine q9 (qa (zy (zn ?_)));obtain⟨u,a⟩:=ze a
 refine ko (i:=e.toNat) rfl za6 rfl (j3 (t.mono d)) (zf rfl u.1) (zz u) fun aE aa=>?_;refine qo rfl z97 rfl aa fun p w=>?_;refine zi p (qw (jm (v:=p) rfl (zb rfl) (jm rfl (qj rfl underlying97 rfl (j3 w)) (zjz rfl (w9 ll lh rfl (l.mono d)) fun aF ab=>?_))))
 refine jm rfl (ow (jr ty3 rfl ab)) (jm rfl (vk rfl rfl) (jm (v:=(.bool (decide ((↑(ix m.rows e).length:Int)≠m.inputs)))) rfl (zb rfl) (j4 rfl rfl rfl rfl (fun c=>qy (v:=p) (zb rfl)) fun aG ac=>?_)))
 refine j4 rfl rfl rfl rfl (fun c=>qy (v:=(.func (.func 78) #[] #[E])) (z05 (fs:=[]) (cs:=[E]) rfl rfl)) fun aH ad=>?_;obtain⟨ae,af,a⟩:=zq a
 refine z3c rfl rfl rfl rfl (fun c=>ut (vs:=[p,(.func (.func 78) #[] #[E])]) qbn (z7m (ac.1 (zm rfl c)) (z7m (ad.1 (zm rfl c)) rfl)) ((by have ag:=(lv af (zm rfl c));exact z96 w (zlc (cs:=[E]) qb4 fun R1 hq z0 u0 y k0 hy=>by obtain rfl:=z0c.1 k0;exact CallP.mono (zhe ((l.mono d).mono hq) hy) fun v R2 _ hv=>uj.2 hv) ag)) (fun _ _ h=>h)) fun x z f j=>?_
 replace j:phG (true&&((decide ((↑(ix m.rows e).length:Int)≠m.inputs))==false)) (phX (.bool (ae.getD default))) x z:=j;refine jm rfl (z0l rfl rfl (fun n=>(j.1 (zm rfl n)))) (z8 (zu rfl a (fun a=>?_) (fun a=>?_)));refine zn (zi (vi 1) (z8 (qx ?_)));replace b:=z3f a b;obtain rfl:=Option.some.inj b
 refine qc (D:=[]) (J:=[]) (rs:=[.tmp 2]) (vs:=[(vi 1)]) ((k.trans d).trans f) rfl rfl ⟨rfl,trivial⟩ ?_;exact⟨rfl,rfl⟩;refine q9 (zx ?_);obtain⟨B,a⟩:=ze a;refine zt (qz rfl rfl B) (zg (vi (e+1)) (z8 ?_));exact⟨dkt,f,jd,(o,e+1),Nat.lt_succ_self _,⟨rfl,trivial⟩,prm,a,trivial⟩
 refine jf ?_;exact⟨dkt,d,jd,(),trivial,prm,(Option.some.inj a).symm,trivial⟩;rintro aM ai aN C ⟨rfl,_⟩;replace b:=z5c b;refine zn (zi (vi 0) (z8 (qx ?_)));obtain rfl:=Option.some.inj b;refine qc (D:=[]) (J:=[]) (rs:=[.tmp 2]) (vs:=[(vi 0)]) (k.trans C) rfl rfl ⟨rfl,trivial⟩ ?_;exact⟨rfl,rfl⟩
theorem zxm:Enters prog 56:=enters_of func56 rfl (by kernel_rfl)
theorem q9f: ∀ w,∃ z,(zeroValue 133).run prog w= .ok z w∧z.cells=([.int .i64 0,.nilFunc,.int .i64 0,.nilFunc,.int .i64 0,.nilFunc]:List Value).toArray:=fun w=>⟨(.agg #[(vi 0),.nilFunc,(vi 0),.nilFunc,(vi 0),.nilFunc]),by kernel_rfl,rfl⟩
theorem q5x: ∀ w,(sizeOf 133).run prog w= .ok 6 w:=fun w=>by kernel_rfl
theorem q8l: ∀ w,(isAgg 133).run prog w= .ok true w:=fun w=>by kernel_rfl
theorem zhj{N:Nat}{R:RH}{m:Mach}{b:Value}(d:VRep (je false false) R b m){r:Mach×Mach×Mach}(c:zac N m=some r):CallP prog 80 #[b] R (fun v R'=> ∃ g h j,v= .agg #[(vi 9),.func (.func 94) #[] #[g],(vi 11),.func (.func 96) #[] #[h],(vi 12),.func (.func 98) #[] #[j]]∧PRep (je false false) R' g r.1∧PRep (je false false) R' h r.2.1∧PRep (je false false) R' j r.2.2):=by
 refine qf (args:=[b]) func80 rfl rfl fun A=>?_;rw [zac] at c;refine zn (jy (T:=(je false false)) rfl rfl rfl d fun a n e o f=>?_);refine uq rfl q9f fun k=>?_
 refine qw (zt (z05 (fs:=[]) (cs:=[a]) rfl rfl) (zt (yw (ps:=[(0,(vi 9)),(1,(.func (.func 94) #[] #[a]))]) (v:=(.agg #[(vi 9),(.func (.func 94) #[] #[a])])) rfl (fun w=>by kernel_rfl)) (zt (z05 (fs:=[]) (cs:=[a]) rfl rfl) (zt (yw (ps:=[(0,(vi 11)),(1,(.func (.func 96) #[] #[a]))]) (v:=(.agg #[(vi 11),(.func (.func 96) #[] #[a])])) rfl (fun w=>by kernel_rfl)) (zt (z05 (fs:=[]) (cs:=[a]) rfl rfl) (zt (yw (ps:=[(0,(vi 12)),(1,(.func (.func 98) #[] #[a]))]) (v:=(.agg #[(vi 12),(.func (.func 98) #[] #[a])])) rfl (fun w=>by kernel_rfl)) (zt (yw (ps:=[(0,(.agg #[(vi 9),(.func (.func 94) #[] #[a])])),(1,(.agg #[(vi 11),(.func (.func 96) #[] #[a])])),(2,(.agg #[(vi 12),(.func (.func 98) #[] #[a])]))]) (v:=(.agg #[(vi 9),(.func (.func 94) #[] #[a]),(vi 11),(.func (.func 96) #[] #[a]),(vi 12),(.func (.func 98) #[] #[a])])) rfl (fun w=>by kernel_rfl)) (jo (i:=0) (vs:=[(vi 9),(.func (.func 94) #[] #[a]),(vi 11),(.func (.func 96) #[] #[a]),(vi 12),(.func (.func 98) #[] #[a])]) q5x rfl rfl rfl rfl rfl rfl (qg rfl (qg rfl (qg rfl (qg rfl (qg rfl (qg rfl kg)))))) ?_))))))))
 refine z8 (qx ?_);obtain rfl:=Option.some.inj c
 refine qc (D:=[]) (J:=[box k [(vi 9),(.func (.func 94) #[] #[a]),(vi 11),(.func (.func 96) #[] #[a]),(vi 12),(.func (.func 98) #[] #[a])] 133]) (rs:=[.cell 2 133]) (vs:=[(.agg #[(vi 9),(.func (.func 94) #[] #[a]),(vi 11),(.func (.func 96) #[] #[a]),(vi 12),(.func (.func 98) #[] #[a])])]) e rfl rfl ⟨⟨_,rfl,fun w l=>z3v (i:=0) l rfl rfl q8l q5x rfl rfl⟩,trivial⟩ ?_
 exact⟨rfl,⟨a,a,a,rfl,f,f,f⟩⟩
theorem qae:Enters prog 80:=enters_of func80 rfl (by kernel_rfl)
theorem q3g: ∀ w,∃ z,(zeroValue 132).run prog w= .ok z w∧z.cells=([.int .i64 0,.nilFunc]:List Value).toArray:=fun w=>⟨(.agg #[(vi 0),.nilFunc]),by kernel_rfl,rfl⟩
theorem q0g: ∀ w,(sizeOf 132).run prog w= .ok 2 w:=fun w=>by kernel_rfl
theorem zpp:FieldOk prog 132 1 1:=by
 obtain⟨i,hi,a⟩: ∃ i,prog.info? 44=some i∧i.size=1:=ky (by kernel_rfl);exact ul underlying132 rfl rfl hi (by rw [a];rfl)
theorem q6t: ∀ w,(isAgg 44).run prog w= .ok false w:=fun w=>by kernel_rfl
theorem qbs: ∀ w,∃ z,(zeroValue 37).run prog w= .ok z w∧z.cells=([.slice none 0 0]:List Value).toArray:=fun w=>⟨vs0,by kernel_rfl,rfl⟩
theorem zj5{N:Nat}{R:RH}{m:Mach}{a:Value}(d:VRep (je false false) R a m){r:Mach}(b:z8q N m=some r):CallP prog 110 #[a] R (fun v R'=> ∃ f,v= .func (.func 116) #[] #[f]∧PRep (je false false) R' f r):=by
 refine qf (args:=[a]) func110 rfl rfl fun A=>?_;rw [z8q] at b;refine zn (jy (T:=(je false false)) rfl rfl rfl d fun c h e i g=>?_);refine zi .nilFunc (qw (zt (z05 (fs:=[]) (cs:=[c]) rfl rfl) (zi (.func (.func 116) #[] #[c]) (z8 (qx ?_)))));obtain rfl:=Option.some.inj b
 refine qc (D:=[]) (J:=[]) (rs:=[.tmp 2]) (vs:=[(.func (.func 116) #[] #[c])]) e rfl rfl ⟨rfl,trivial⟩ ?_;exact⟨rfl,⟨c,rfl,g⟩⟩
theorem q9v:Enters prog 110:=enters_of func110 rfl (by kernel_rfl)
theorem zh1{N:Nat}{R:RH}{p0_:Mach}{e:Value}(r:PRep (je false false) R e p0_):zws prog 116 [e] R (fun(x:((Int×Int)×Edge)) vs R=>vs=[(z2i x.1),(z2o x.2)]) (fun σ B s=>z5n N p0_ σ B s):=by
 intro yv σ B I R1 O s0 Y C ab h0 c hy;refine z13 (args:=[yv,e]) func116 rfl rfl fun A=>?_;dsimp only at c;rw [z5n] at c;refine zn (jg rfl uy u6 rfl (r.mono C) fun v1 h2=>?_);refine qo rfl z1z rfl h2 fun v3 Z=>?_
 refine zt (qj rfl underlying30 rfl (j3 Z)) (zg (vi 0) (z8 (zy (ja (γ:=Nat×σ×Int×(List Frag)) (rs [3,7,10,31]) (fun g=>[(10,(vi g.2.2.1))]) (fun g=>[]++(g.2.2.2++A)) (fun g R=>fw N σ B p0_ g.1 g.2.1 g.2.2.1=some Y∧I g.2.1 R g.2.2.2∧True) (fun g=>g.1) (N,s0,0,O) prm ⟨c,h0,trivial⟩ ?_))));clear c
 rintro⟨P,x6,d,k⟩ af R8 h ⟨c,l,_⟩;rcases P with _|P;exact qp c;replace c:fw N σ B p0_ (P+1) x6 d=some Y:=c;rw [fw] at c;refine zn (zt (j5 rfl rfl) (z8 (qa (zu rfl c (fun c=>?_) (fun c=>?_)))));refine q9 ?_;obtain⟨t,b,c⟩:=zq c
 refine qm (γ:=σ×(List Frag)) (rs [3,7,12,30]) (fun g=>[]) (fun g=>[]++(g.2++A)) (fun g R=>t=Ex.go g.1∧I g.1 R g.2∧True) ?_ ?_;refine zy (zn (zg (vi d) ?_));obtain⟨E,b⟩:=ze b;refine ko (i:=d.toNat) rfl za6 rfl (j3 (Z.mono h)) (zf rfl E.1) (zz E) fun ag Q=>?_
 refine qo rfl z97 rfl Q fun F G=>?_
 refine zi (vi d) (zi F (qw (zg F (zt (qj rfl underlying97 rfl (j3 G)) (zg (vi 0) (z8 (zy (ja (γ:=Nat×σ×Int×(List Frag)) (rs [5,7,17,30]) (fun g=>[(17,(vi g.2.2.1))]) (fun g=>[]++(g.2.2.2++A)) (fun g R=>ic N σ B p0_ d g.1 g.2.1 g.2.2.1=some t∧I g.2.1 R g.2.2.2∧True) (fun g=>g.1) (N,x6,0,k) prm ⟨b,l,trivial⟩ ?_))))))))
 clear b;rintro⟨j,u,a,m⟩ ah ai f ⟨b,n,_⟩;rcases j with _|j;exact qp b;replace b:ic N σ B p0_ d (j+1) u a=some t:=b;rw [ic] at b;refine zn (zt (j5 rfl rfl) (z8 (qa (zu rfl b (fun b=>?_) (fun b=>?_)))))
 refine q9 (qa (zy (zn (zg (vi a) ?_))));obtain⟨H,b⟩:=ze b;refine ko (i:=a.toNat) rfl zaf rfl (j3 (G.mono f)) (zf rfl H.1) (zz H) fun aj S=>?_;refine qo rfl zai rfl S fun ak T=>?_;obtain rfl:=z0c.1 T;refine uq rfl za1 fun y=>?_
 refine zi (vi a) (jo (i:=0) (vs:=[(vi ((ix (ix p0_.rows d) a).to)),(vi ((ix (ix p0_.rows d) a).out))]) z6j rfl rfl rfl rfl rfl rfl (qg rfl (qg rfl kg)) ?_)
 refine qw (zg yv (zg (vi d) (zg (vi a) (zt (yw (ps:=[(0,(vi d)),(1,(vi a))]) (v:=(.agg #[(vi d),(vi a)])) rfl (fun w=>by kernel_rfl)) (zt (yg (i:=0) zpf z6j rfl rfl rfl rfl) ?_)))));obtain⟨z,U,b⟩:=zq b
 refine zk9 (vs:=[(.agg #[(vi d),(vi a)]),(.agg #[(vi ((ix (ix p0_.rows d) a).to)),(vi ((ix (ix p0_.rows d) a).out))])]) (J:=[box y [(vi ((ix (ix p0_.rows d) a).to)),(vi ((ix (ix p0_.rows d) a).out))] 100]) (Oc:=m) (A:=A) rfl rfl rfl rfl (hy (((d,a):(Int×Int)),(⟨(ix (ix p0_.rows d) a).to,(ix (ix p0_.rows d) a).out⟩:Edge)) u z.1 z.2 _ _ [(.agg #[(vi d),(vi a)]),(.agg #[(vi ((ix (ix p0_.rows d) a).to)),(vi ((ix (ix p0_.rows d) a).out))])] (h.trans f) rfl n U) fun al o p q=>?_
 refine zt (lu rfl) (z8 (zu rfl b (fun b=>?_) (fun b=>?_)));refine qx ?_;replace c:=z3f b c;obtain rfl:=Option.some.inj c
 refine z18 (D:=[]) (J:=[box y [(vi ((ix (ix p0_.rows d) a).to)),(vi ((ix (ix p0_.rows d) a).out))] 100]) (O':=o) (rs:=[]) (vs:=[]) ((h.trans f).trans p) (List.Perm.refl _) rfl trivial ?_;exact q;refine q9 (zx ?_);obtain⟨V,b⟩:=ze b;refine zt (qz rfl rfl V) (zg (vi (a+1)) (z8 ?_))
 exact⟨dkt,p,jd,(j,z.2,a+1,o),Nat.lt_succ_self _,⟨rfl,trivial⟩,⟨[box y [(vi ((ix (ix p0_.rows d) a).to)),(vi ((ix (ix p0_.rows d) a).out))] 100],(List.Perm.refl _)⟩,b,q,trivial⟩;refine jf ?_;exact⟨dkt,f,jd,(u,m),trivial,prm,(Option.some.inj b).symm,n,trivial⟩;rintro⟨W,K⟩ am an L ⟨rfl,M,_⟩
 replace c:=z5c c;refine zx ?_;obtain⟨X,c⟩:=ze c;refine zt (qz rfl rfl X) (zg (vi (d+1)) (z8 ?_));exact⟨dkt,L,jd,(P,W,d+1,K),Nat.lt_succ_self _,⟨rfl,trivial⟩,prm,c,M,trivial⟩;refine jf ?_;show zbw _ _ _ _ _ .ret _ [] _ _;obtain rfl:=Option.some.inj c
 refine z18 (D:=[]) (J:=[]) (O':=k) (rs:=[]) (vs:=[]) h (List.Perm.refl _) rfl trivial ?_;exact l
theorem q8w:Enters prog 116:=enters_of func116 rfl (by kernel_rfl)
theorem qb6: ∀ w,∃ z,(zeroValue 68).run prog w= .ok z w∧z.cells=([.int .i64 0,.int .i64 0]:List Value).toArray:=fun w=>⟨(.agg #[(vi 0),(vi 0)]),by kernel_rfl,rfl⟩
theorem q6s: ∀ w,(sizeOf 68).run prog w= .ok 2 w:=fun w=>by kernel_rfl
theorem zuu: ∀ w,(isAgg 37).run prog w= .ok false w:=fun w=>by kernel_rfl
theorem qad: ∀ w,(isAgg 68).run prog w= .ok true w:=fun w=>by kernel_rfl
theorem zuf:ZeroOk prog 68 kA2tInti64 (((0:Int),(0:Int)):(Int×Int)) 16:=by
 obtain⟨i,zv,hi,a,c,d,f⟩:=z6b (P:=prog) (e:=68) (zv:=(.agg #[(vi 0),(vi 0)])) (k:=2) (b:=16) (by kernel_rfl);exact⟨i,zv,hi,a,c,d,fun R=>by subst f;exact⟨_,_,rfl,rfl,rfl⟩⟩
theorem q51: ∀ w,(sizeOf 37).run prog w= .ok 1 w:=fun w=>by kernel_rfl
theorem q7f:TyOk prog 68 kA2tInti64:=by
 obtain⟨i,hi,a⟩: ∃ i,prog.info? 68=some i∧i.size=2:=ky (by kernel_rfl);exact z4t underlying68 hi rfl a
theorem q75:SlOk prog 37 68 kA2tInti64:=⟨underlying37,q7f⟩
theorem z9o{N:Nat}{R:RH}{s:(List (Int×Int))}{a:Value}(b:VRep (tSl false kA2tInti64) R a s){r:(List (Int×Int))}(c:z0u N s=some r):CallP prog 23 #[a] R (fun v R'=>VRep (tSl true kA2tInti64) R' v r):=by
 refine qf (args:=[a]) func23 rfl rfl fun A=>?_;rw [z0u] at c;refine zn (zi vs0 (qw (zg a (zg a (zt (qj rfl underlying37 rfl (j3 b)) (zg a (zt (qj rfl underlying37 rfl (j3 b)) ?_)))))));obtain⟨d,c⟩:=ze c
 refine zcp (v:=a) (lo:=(0:Int).toNat) (hi:=(↑s.length:Int).toNat) (mx:=(↑s.length:Int).toNat) rfl q75 rfl (j3 b) (.inl ⟨rfl,rfl⟩) (.inr ⟨_,congrArg some (zf rfl (zbq d))⟩) (.inr ⟨_,congrArg some (zf rfl (zbq d))⟩) (ze5 d) (z6k d) (Nat.le_refl _) (Nat.le_trans (z6k d) (zqo (j3 b))) (X':=(cut s 0 (↑s.length:Int))) rfl fun f g e=>?_
 have h:VRep (tSl true kA2tInti64) R f (cut s 0 (↑s.length:Int)):=z1s g (e.trans (zle d).symm);refine zi f (z8 (qx ?_));obtain rfl:=Option.some.inj c;refine qc (D:=[]) (J:=[]) (rs:=[.tmp 2]) (vs:=[f]) (RH.le.refl _) rfl rfl ⟨rfl,trivial⟩ ?_;exact⟨rfl,h⟩
theorem qa1:Enters prog 23:=enters_of func23 rfl (by kernel_rfl)
theorem zfe{N:Nat}{R:RH}{m:Mach}{t:Value}(u:VRep (je false false) R t m){r:(List (Int×Int))}(d:z4b N m=some r):CallP prog 104 #[t] R (fun v R'=>VRep (tSl true kA2tInti64) R' v r):=by
 refine qf (args:=[t]) func104 rfl rfl fun A=>?_;rw [z4b] at d;refine zn (jy (T:=(je false false)) rfl rfl rfl u fun v1 R3 w h5 h2=>?_);refine zi vs0 (qw (uq rfl qbs fun E=>?_));refine z8 (qa (zn (zt (jh fe rfl rfl h5 (u.mono w)) ?_)));obtain⟨y8,c9,d⟩:=zq d
 refine jb rfl q9v rfl (zj5 (u.mono w) c9) fun aC aD F U=>?_;obtain⟨aE,rfl,V⟩:=U;refine z8 (zy (z2m ?_));obtain⟨W,Z,d⟩:=zq d
 refine zlm (Oc:=[emp,box E [vs0] 37]) (Or:=A) _ (fun(s:List (Int×Int)) R O=> ∃ (e:Value) (f:Frag),(∃ J,O.Perm (J++[box E [e] 37,f]))∧ORep kA2tInti64 R f e s∧True) (fun(s:List (Int×Int)) (c:Code) R O=>False) _ _ rfl q8w (zh1 (N:=N) V) (List.Perm.refl _) (by decide) (by rintro _ _ _ rfl;rfl) (by rintro s R2 R3 O2 n ⟨e,f,G,o,_⟩;exact⟨e,f,G,o.mono n,trivial⟩) (fun _ _ _ _ _ _ h=>h) (fun _ _ _ _ _ h=>h.elim) ⟨vs0,emp,⟨[],(pk 1 rfl (pk 0 rfl (List.Perm.refl _)))⟩,(ru (T:=kA2tInti64)),trivial⟩ Z ?_ ?_ ?_
 rintro a aa aF aG au aH av aw ax H ⟨e,f,⟨_,G⟩,o,_⟩ p aI;have b:=p;clear p;(try dsimp only at b);refine zih (zms G) ?_;obtain rfl:=H;refine zn (uq rfl qb6 fun j=>?_);refine jo (i:=0) (vs:=[(vi a.1.1),(vi a.1.2)]) q6s rfl rfl rfl rfl rfl rfl (qg rfl (qg rfl kg)) ?_
 refine z8 (zx (uq rfl za1 fun k=>?_));refine jo (i:=0) (vs:=[(vi a.2.to),(vi a.2.out)]) z6j rfl rfl rfl rfl rfl rfl (qg rfl (qg rfl kg)) ?_;refine z8 ?_
 refine⟨rfl,rfl,(RH.le.refl _),[box k [(vi a.2.to),(vi a.2.out)] 100,box j [(vi a.1.1),(vi a.1.2)] 68,box E [e] 37,f],List.Perm.refl _,fun aJ=>?_⟩;refine zy (qa ?_);obtain⟨x,ab,b⟩:=zq b
 refine cu 3 [] [phX (.agg #[(vi a.2.to),(vi a.2.out)]),phX (z2o x),phX (.bool (decide (a.2.to=x.to∧a.2.out=x.out)))] mixed (by kernel_rfl) (ym ⟨zk,zk,zk,trivial⟩) ⟨?_,?_,?_,trivial⟩ fun aK g=>?_;intro l aL n ha hd;exact za rfl rfl rfl (zo (yg (i:=0) zpf z6j (ha 5 rfl) rfl rfl rfl))
 intro l aN n ha hd;exact za rfl rfl rfl (ut (vs:=[]) q6j rfl (zab  ab) (fun _ _ h=>h));rintro l aO n ha ⟨d0,d1,_⟩;exact za rfl rfl rfl (zo (zs7 q5u (d0 rfl) (d1 rfl)));intro aR ad aS ae aT af;obtain rfl:=Eq.symm ad;obtain rfl:=Eq.symm ae;obtain rfl:=Eq.symm af;refine z8 (zu rfl b (fun b=>?_) (fun b=>?_))
 refine zx (zt (qd (i:=2) zuu rfl rfl rfl) (zt (yg (i:=1) qad q6s rfl rfl rfl rfl) (nk (T:=kA2tInti64) (X:=([((a.1.1,a.1.2):(Int×Int))]:List (Int×Int))) (ps:=[(0,(.agg #[(vi a.1.1),(vi a.1.2)]))]) (css:=[[(vi a.1.1),(vi a.1.2)]]) rfl underlying37 zuf rfl rfl (kw ⟨⟨_,_,rfl,rfl,rfl⟩,trivial⟩) rfl rfl (by decide) fun ag aU y ah=>?_)))
 refine ug (i:=0) rfl ah fun ai q ak=>?_;have al:VRep (tSl true kA2tInti64) ai ag ([((a.1.1,a.1.2):(Int×Int))]:List (Int×Int)):=(z1s ak y);obtain⟨I,b⟩:=ze b
 refine wh (i:=3) (X:=aa) (Y:=([((a.1.1,a.1.2):(Int×Int))]:List (Int×Int))) rfl underlying37 zuf rfl rfl rfl (o.mono (g.trans q)) (j3 (Sub.v (B:=(tSl false kA2tInti64)) (kv Sub.refl (fun _=>rfl)) al)) I.1 I.2 fun z K C=>?_
 refine jo (i:=2) (vs:=[z]) q51 rfl rfl (aj C) rfl rfl rfl (qg (yj C) kg) ?_;refine z8 ?_;obtain⟨rfl,rfl⟩:=Prod.mk.inj (Option.some.inj b)
 exact⟨rfl,(g.trans q),[box k [(vi a.2.to),(vi a.2.out)] 100,box j [(vi a.1.1),(vi a.1.2)] 68,box E [z] 37,K],List.Perm.refl _,rfl,⟨z,K,⟨[box k [(vi a.2.to),(vi a.2.out)] 100,box j [(vi a.1.1),(vi a.1.2)] 68],(List.Perm.refl _)⟩,C,trivial⟩⟩;refine q9 ?_
 obtain⟨rfl,rfl⟩:=Prod.mk.inj (Option.some.inj b)
 exact⟨rfl,g,[box k [(vi a.2.to),(vi a.2.out)] 100,box j [(vi a.1.1),(vi a.1.2)] 68,box E [e] 37,f],List.Perm.refl _,rfl,⟨e,f,⟨[box k [(vi a.2.to),(vi a.2.out)] 100,box j [(vi a.1.1),(vi a.1.2)] 68],(List.Perm.refl _)⟩,(o.mono g),trivial⟩⟩
 rintro aV aW ay L ⟨M,aX,⟨_,G⟩,am,_⟩;refine⟨_,_,G,?_⟩;refine zn (zt (qd (i:=0) zuu rfl rfl rfl) (ug (i:=1) rfl am fun an P ao=>?_));have ap:VRep (tSl false kA2tInti64) an M W:=(z4s ao);obtain⟨aY,aq,d⟩:=zq d;refine jb rfl qa1 rfl (z9o ap aq) fun Q aZ S ar=>?_
 refine zi Q (z8 (qx ?_));obtain rfl:=Option.some.inj d;refine qc (D:=[]) (J:=[box E [M] 37]) (rs:=[.tmp 2]) (vs:=[Q]) ((((w.trans F).trans L).trans P).trans S) rfl rfl ⟨rfl,trivial⟩ ?_;exact⟨rfl,ar⟩;exact fun _ _ _ _ _ h=>h.elim
theorem q7u:Enters prog 104:=enters_of func104 rfl (by kernel_rfl)
theorem zga{N:Nat}{R:RH}{m:Mach}{e:Value}(d:VRep (je false false) R e m){r:Bool×Int}(a:z4x N m=some r):CallP prog 95 #[e] R (fun v R'=>v= .tuple #[(.bool r.1),(vi r.2)]):=by
 refine qf (args:=[e]) func95 rfl rfl fun A=>?_;rw [z4x] at a;refine zn (jy (T:=(je false false)) rfl rfl rfl d fun s t c k u=>?_);refine zi (.bool false) (zi (vi 0) (z8 (qa (zn (zt (jh fe rfl rfl k (d.mono c)) ?_)))));obtain⟨f,l,a⟩:=zq a
 refine jb rfl zxm rfl (z3z (d.mono c) l) fun w n b o=>?_;obtain rfl:=o;refine zi (vi f) (qw (zg (vi f) (zt (vk rfl rfl) (z8 (zu rfl a (fun a=>?_) (fun a=>?_))))));refine zn (zg (vi f) (zi (.bool false) (zi (vi f) (z8 (qx ?_)))));obtain rfl:=Option.some.inj a
 refine qc (D:=[]) (J:=[]) (rs:=[.tmp 2,.tmp 3]) (vs:=[(.bool false),(vi f)]) (c.trans b) rfl rfl ⟨rfl,rfl,trivial⟩ ?_;exact⟨rfl,rfl⟩;refine q9 (zn (zt (jh fe rfl rfl (k.mono b) (d.mono (c.trans b))) ?_));obtain⟨g,i,a⟩:=zq a
 refine jb rfl q7u rfl (zfe (d.mono (c.trans b)) i) fun p q h j=>?_;refine zt (qj rfl underlying37 rfl (j3 j)) (zt (xy rfl rfl) (zi (.bool (decide ((↑g.length:Int)=0))) (zi (vi 0) (z8 (qx ?_)))));obtain rfl:=Option.some.inj a
 refine qc (D:=[]) (J:=[]) (rs:=[.tmp 2,.tmp 3]) (vs:=[(.bool (decide ((↑g.length:Int)=0))),(vi 0)]) ((c.trans b).trans h) rfl rfl ⟨rfl,rfl,trivial⟩ ?_;exact⟨rfl,rfl⟩
theorem qan:Enters prog 95:=enters_of func95 rfl (by kernel_rfl)
theorem zgh{N:Nat}{R:RH}{p0_:Mach}{a:Value}(c:PRep (je false false) R a p0_){r:Bool}(b:z5d N p0_=some r):CallP prog 94 #[a] R (fun v R'=>v=(.bool r)):=by
 refine qf (args:=[a]) func94 rfl rfl fun A=>?_;rw [z5d] at b;refine zn (zi (.bool false) (qw (qo rfl fe rfl c fun i f=>?_)));obtain⟨d,g,b⟩:=zq b;refine jb rfl qan rfl (zga f g) fun j k e h=>?_;obtain rfl:=h
 refine zg (.tuple #[(.bool d.1),(vi d.2)]) (zt (jv rfl rfl) (zt (jv rfl rfl) (zi (.bool d.1) (zi (vi d.2) (qw (zg (.bool d.1) (zi (.bool d.1) (z8 (qx ?_)))))))));obtain rfl:=Option.some.inj b;refine qc (D:=[]) (J:=[]) (rs:=[.tmp 1]) (vs:=[(.bool d.1)]) e rfl rfl ⟨rfl,trivial⟩ ?_;exact⟨rfl,rfl⟩
theorem qbh:Enters prog 94:=enters_of func94 rfl (by kernel_rfl)
theorem zq9:FieldOk prog 132 0 0:=by
 obtain⟨i,hi,a⟩: ∃ i,prog.info? 40=some i∧i.size=1:=ky (by kernel_rfl);exact ul underlying132 rfl rfl hi (by rw [a];rfl)
theorem q6l: ∀ w,(isAgg 40).run prog w= .ok false w:=fun w=>by kernel_rfl
theorem q8n: ∀ w,∃ z,(zeroValue 64).run prog w= .ok z w∧z.cells=([.slice none 0 0]:List Value).toArray:=fun w=>⟨vs0,by kernel_rfl,rfl⟩
theorem q9d: ∀ w,(sizeOf 64).run prog w= .ok 1 w:=fun w=>by kernel_rfl
theorem qbf: ∀ w,∃ z,(zeroValue 83).run prog w= .ok z w∧z.cells=([.nilFunc]:List Value).toArray:=fun w=>⟨.nilFunc,by kernel_rfl,rfl⟩
theorem qah: ∀ w,(sizeOf 83).run prog w= .ok 1 w:=fun w=>by kernel_rfl
theorem q87: ∀ w,(isAgg 83).run prog w= .ok false w:=fun w=>by kernel_rfl
theorem zj1: ∀ w,(isAgg 64).run prog w= .ok false w:=fun w=>by kernel_rfl
theorem q5w:Enters prog 105:=enters_of func105 rfl (by kernel_rfl)
theorem zbb{N:Nat}(F:Nat): ∀ {R:RH} {s:Int} {a:Nat} {p0_:List Bool} {e:Value} {fAc:Frag} (f:ORep jl R fAc e p0_) {p1_:Mach} {d:Value} (k:PRep (je false false) R d p1_) {b:Nat} {r:List Bool} (c:cz N F s p0_ p1_=some r),CallG prog 105 #[(vi s),(.pointer (some ⟨a,0,none⟩)),d,(.pointer (some ⟨b,0,none⟩))] R [box a [e] 64,fAc,box b [.func (.func 105) #[] #[(.pointer (some ⟨a,0,none⟩)),d,(.pointer (some ⟨b,0,none⟩))]] 83] (fun v R' O'=> ∃ l m,v= .tuple #[]∧O'=[box a [l] 64,m,box b [.func (.func 105) #[] #[(.pointer (some ⟨a,0,none⟩)),d,(.pointer (some ⟨b,0,none⟩))]] 83]∧ORep jl R' m l r):=by
  induction F with
  |zero=>intros;rename_i c;exact qp c
  |succ F ih=>
    intro R s a p0_ e fAc f p1_ d k b r c
    refine z13 (args:=[(vi s),(.pointer (some ⟨a,0,none⟩)),d,(.pointer (some ⟨b,0,none⟩))]) func105 rfl rfl fun A=>?_
    rw [cz] at c
    refine qa ?_
    refine qa ?_
    refine zx ?_
    refine jm (v:=(vi s)) rfl (zb rfl) ?_
    refine jm rfl (xy rfl rfl) ?_
    refine jm (v:=(.bool (decide (s=(-1))))) rfl (zb rfl) ?_
    refine j4 rfl rfl rfl rfl (fun o=>qy (v:=e) (qd (i:=0) zj1 rfl rfl rfl)) fun v7 h8=>?_
    refine j4 rfl rfl rfl rfl (fun o=>qy (v:=(vi s)) (zb rfl)) fun v9 G=>?_
    obtain⟨q,c⟩:=ze c
    refine j4 rfl rfl rfl rfl (fun o=>z3w (i:=s.toNat) z5h (h8.1 (zm rfl o)) f (zf (G.1 (zm rfl o)) (q (zm rfl o)).1) (zz (q (zm rfl o)))) fun ae H=>?_
    refine j4 rfl rfl rfl rfl (fun o=>qy (z7p (zb2 (i:=s.toNat) (j:=1) ty4 f rfl rfl (H.1 (zm rfl o)) (zz (q (zm rfl o)))))) fun af I=>?_
    refine jm rfl (z0l rfl rfl (fun hb=>(I.1 (zm rfl hb)))) ?_
    refine z8 ?_
    refine zu rfl c (fun c=>?_) (fun c=>?_)
    · refine qx ?_
      obtain rfl:=Option.some.inj c
      refine z18 (D:=[]) (J:=[]) (O':=[box a [e] 64,fAc,box b [(.func (.func 105) #[] #[(.pointer (some ⟨a,0,none⟩)),d,(.pointer (some ⟨b,0,none⟩))])] 83]) (rs:=[]) (vs:=[]) (RH.le.refl _) ((pk 0 rfl (pk 0 rfl (pk 0 rfl (List.Perm.refl _))))) rfl trivial ?_
      exact⟨e,fAc,rfl,rfl,f⟩
    · refine q9 ?_
      refine qa ?_
      refine zx ?_
      refine zt (qd (i:=0) zj1 rfl rfl rfl) ?_
      refine zg (vi s) ?_
      obtain⟨t,c⟩:=ze c
      refine uu (i:=s.toNat) rfl z5h rfl f (zf rfl t.1) (zz t) fun ah K=>?_
      refine og (i:=s.toNat) (j:=1) ty4 f rfl rfl K (zz t) rfl (uj.2 rfl) fun L M=>?_
      refine z8 ?_
      refine qa ?_
      refine zx ?_
      refine jg rfl uy u6 rfl k fun ai O=>?_
      refine qo rfl z1z rfl O fun aj P=>?_
      refine zg (vi s) ?_
      obtain⟨x,c⟩:=ze c
      refine ko (i:=s.toNat) rfl za6 rfl (j3 P) (zf rfl x.1) (zz x) fun ak Q=>?_
      refine qo rfl z97 rfl Q fun al y=>?_
      refine zt (qj rfl underlying97 rfl (j3 y)) ?_
      refine zg (vi 0) ?_
      refine z8 ?_
      refine zy ?_
      refine ja (γ:=Nat×Int×(List Bool)×Value×Frag) (rs [6,7,24,33]) (fun g=>[(24,(vi g.2.1))]) (fun g=>[box b [(.func (.func 105) #[] #[(.pointer (some ⟨a,0,none⟩)),d,(.pointer (some ⟨b,0,none⟩))])] 83,box a [g.2.2.2.1] 64,g.2.2.2.2]++A) (fun g R=>mq N (cz N F) s p1_ g.1 g.2.1 g.2.2.1=some r∧ORep jl R g.2.2.2.2 g.2.2.2.1 g.2.2.1∧True) (fun g=>g.1) (N,0,(up p0_ s true),e,L) ⟨[],(pk 2 rfl (pk 0 rfl (pk 0 rfl (List.Perm.refl _))))⟩ ⟨c,M,trivial⟩ ?_
      clear c
      rintro⟨p,h,S,u,w⟩ am an n ⟨c,z,_⟩
      rcases p with _|p
      · exact qp c
      replace c:mq N (cz N F) s p1_ (p+1) h S=some r:=c;rw [mq] at c
      refine qa ?_
      refine zx ?_
      refine zt (j5 rfl rfl) ?_
      refine z8 ?_
      refine qa ?_
      refine zu rfl c (fun c=>?_) (fun c=>?_)
      · refine q9 ?_
        refine qa ?_
        refine zy ?_
        refine qa ?_
        refine zx ?_
        obtain⟨B,c⟩:=ze c
        refine ko (i:=h.toNat) rfl zaf rfl (j3 (y.mono n)) (zf rfl B.1) (zz B) fun ao T=>?_
        refine qo rfl zai rfl T fun ap U=>?_
        obtain rfl:=z0c.1 U
        refine uq rfl za1 fun C=>?_
        refine jo (i:=0) (vs:=[(vi ((ix (ix p1_.rows s) h).to)),(vi ((ix (ix p1_.rows s) h).out))]) z6j rfl rfl rfl rfl rfl rfl (qg rfl (qg rfl kg)) ?_
        refine z8 ?_
        refine zx ?_
        refine zt (qd (i:=1) q87 rfl rfl rfl) ?_
        refine zt (qb o8 rfl) ?_
        refine zt (qd (i:=0) ag3 rfl rfl rfl) ?_
        obtain⟨V,W,c⟩:=zq c
        refine z1e (Oc:=[box a [u] 64,w,box b [(.func (.func 105) #[] #[(.pointer (some ⟨a,0,none⟩)),d,(.pointer (some ⟨b,0,none⟩))])] 83]) (Or:=[box C [(vi ((ix (ix p1_.rows s) h).to)),(vi ((ix (ix p1_.rows s) h).out))] 100]++A) (cs:=[(.pointer (some ⟨a,0,none⟩)),d,(.pointer (some ⟨b,0,none⟩))]) (vs:=[(vi ((ix (ix p1_.rows s) h).to))]) rfl q5w rfl rfl ((pk 2 rfl (pk 2 rfl (pk 1 rfl (pk 0 rfl (List.Perm.refl _)))))) (ih z (k.mono n) W) fun aq ar ac E X=>?_
        obtain⟨Y,Z,rfl,rfl,aa⟩:=X
        refine z8 ?_
        refine zx ?_
        obtain⟨ab,c⟩:=ze c
        refine zt (qz rfl rfl ab) ?_
        refine zg (vi (h+1)) ?_
        refine z8 ?_
        exact⟨dkt,E,jd,(p,h+1,V,Y,Z),Nat.lt_succ_self _,⟨rfl,trivial⟩,⟨[box C [(vi ((ix (ix p1_.rows s) h).to)),(vi ((ix (ix p1_.rows s) h).out))] 100],(pk 3 rfl (pk 2 rfl (pk 0 rfl (pk 0 rfl (List.Perm.refl _)))))⟩,c,aa,trivial⟩
      · refine jf ?_
        show zbw _ _ _ _ _ .ret _ [] _ _
        obtain rfl:=Option.some.inj c
        refine z18 (D:=[]) (J:=[]) (O':=[box a [u] 64,w,box b [(.func (.func 105) #[] #[(.pointer (some ⟨a,0,none⟩)),d,(.pointer (some ⟨b,0,none⟩))])] 83]) (rs:=[]) (vs:=[]) n ((pk 1 rfl (pk 1 rfl (pk 0 rfl (List.Perm.refl _))))) rfl trivial ?_
        exact⟨u,w,rfl,rfl,z⟩
theorem zd8{N:Nat}{R:RH}{s:Int}{a:Nat}{p0_:List Bool}{d:Value}{fAc:Frag}(g:ORep jl R fAc d p0_){p1_:Mach}{c:Value}(h:PRep (je false false) R c p1_){b:Nat}{r:List Bool}(i:cz N N s p0_ p1_=some r):CallG prog 105 #[(vi s),(.pointer (some ⟨a,0,none⟩)),c,(.pointer (some ⟨b,0,none⟩))] R [box a [d] 64,fAc,box b [.func (.func 105) #[] #[(.pointer (some ⟨a,0,none⟩)),c,(.pointer (some ⟨b,0,none⟩))]] 83] (fun v R' O'=> ∃ e f,v= .tuple #[]∧O'=[box a [e] 64,f,box b [.func (.func 105) #[] #[(.pointer (some ⟨a,0,none⟩)),c,(.pointer (some ⟨b,0,none⟩))]] 83]∧ORep jl R' f e r):=zbb N g h i
theorem zgb{N:Nat}{R:RH}{s:(List Bool)}{c:Value}(h:VRep (tSl false jl) R c s){f:Bool}{r:Int}(b:z4u N s f=some r):CallP prog 111 #[c,(.bool f)] R (fun v R'=>v=(vi r)):=by
 refine qf (args:=[c,(.bool f)]) func111 rfl rfl fun A=>?_;rw [z4u] at b;refine zn (zi (vi 0) (z8 ?_));obtain⟨l,a,b⟩:=zq b;refine qm (γ:=Unit) (rs [4,19]) (fun g=>[]) (fun g=>[]++A) (fun g R=>l=Ex.go g∧True) ?_ ?_
 refine zn (zg c (zt (qj rfl underlying64 rfl (j3 h)) (zg (vi 0) (z8 (zy (ja (γ:=Nat×Int) (rs [4,6,8,19]) (fun g=>[(8,(vi g.2))]) (fun g=>[]++A) (fun g R=>ol N s f g.1 g.2=some l∧True) (fun g=>g.1) (N,0) prm ⟨a,trivial⟩ ?_))))));clear a;rintro⟨k,d⟩ q x e ⟨a,_⟩;rcases k with _|k
 exact qp a;replace a:ol N s f (k+1) d=some l:=a;rw [ol] at a;refine zn (zt (j5 rfl rfl) (z8 (qa (zu rfl a (fun a=>?_) (fun a=>?_)))));refine q9 (qa (zy (zn (zg (vi d) (zi (vi d) (qw (zg (.bool f) (zg c (zg (vi d) ?_)))))))))
 obtain⟨j,a⟩:=ze a;refine ko (i:=d.toNat) rfl z5h rfl (j3 (h.mono e)) (zf rfl j.1) (zz j) fun t m=>?_;refine qo rfl ty4 rfl m fun u n=>?_;obtain rfl:=uj.1 n;refine zt (q0p underlying4 rfl rfl) (z8 (zu rfl a (fun a=>?_) (fun a=>?_)))
 refine zn (zg (vi d) (zi (vi d) (z8 (qx ?_))));replace b:=z3f a b;obtain rfl:=Option.some.inj b;refine qc (D:=[]) (J:=[]) (rs:=[.tmp 4]) (vs:=[(vi d)]) e rfl rfl ⟨rfl,trivial⟩ ?_;exact⟨rfl,rfl⟩;refine q9 (zx ?_);obtain⟨o,a⟩:=ze a
 refine zt (qz rfl rfl o) (zg (vi (d+1)) (z8 ?_));exact⟨dkt,(RH.le.refl _),jd,(k,d+1),Nat.lt_succ_self _,⟨rfl,trivial⟩,prm,a,trivial⟩;refine jf ?_;exact⟨dkt,e,jd,(),trivial,prm,(Option.some.inj a).symm,trivial⟩;rintro y w z p ⟨rfl,_⟩;replace b:=z5c b;refine zn (zi (vi (-1)) (z8 (qx ?_)))
 obtain rfl:=Option.some.inj b;refine qc (D:=[]) (J:=[]) (rs:=[.tmp 4]) (vs:=[(vi (-1))]) p rfl rfl ⟨rfl,trivial⟩ ?_;exact⟨rfl,rfl⟩
theorem q9z:Enters prog 111:=enters_of func111 rfl (by kernel_rfl)
theorem zd5{N:Nat}{R:RH}{s:(List Bool)}{a:Value}(d:VRep (tSl false jl) R a s){c:Bool}{r:Bool}(b:z2v N s c=some r):CallP prog 106 #[a,(.bool c)] R (fun v R'=>v=(.bool r)):=by
 refine qf (args:=[a,(.bool c)]) func106 rfl rfl fun A=>?_;rw [z2v] at b;refine zn (zi (.bool false) (qw (zg a (zg (.bool c) ?_))));obtain⟨f,g,b⟩:=zq b;refine jb rfl q9z rfl (zgb d g) fun i j e h=>?_;obtain rfl:=h
 refine zt (z2z rfl rfl) (zi (.bool (decide (0≤f))) (z8 (qx ?_)));obtain rfl:=Option.some.inj b;refine qc (D:=[]) (J:=[]) (rs:=[.tmp 4]) (vs:=[(.bool (decide (0≤f)))]) e rfl rfl ⟨rfl,trivial⟩ ?_;exact⟨rfl,rfl⟩
theorem q7z:Enters prog 106:=enters_of func106 rfl (by kernel_rfl)
theorem z9y{N:Nat}{R:RH}{m:Mach}{h:Value}(j:VRep (je false false) R h m){r:Bool×Int}(a:z2d N m=some r):CallP prog 97 #[h] R (fun v R'=>v= .tuple #[(.bool r.1),(vi r.2)]):=by
 refine qf (args:=[h]) func97 rfl rfl fun A=>?_;rw [z2d] at a;refine zn (jy (T:=(je false false)) rfl rfl rfl j fun o Z f O L=>?_);refine zi (.bool false) (zi (vi 0) (z8 (qa (zn (zt (jh fe rfl rfl O (j.mono f)) ?_)))));obtain⟨p,P,a⟩:=zq a
 refine jb rfl zxm rfl (z3z (j.mono f) P) fun v8 Q e S=>?_;obtain rfl:=S;refine zi (vi p) (qw (zg (vi p) (zt (vk rfl rfl) (z8 (zu rfl a (fun a=>?_) (fun a=>?_))))));refine zn (zg (vi p) (zi (.bool false) (zi (vi p) (z8 (qx ?_)))));obtain rfl:=Option.some.inj a
 refine qc (D:=[]) (J:=[]) (rs:=[.tmp 2,.tmp 3]) (vs:=[(.bool false),(vi p)]) (f.trans e) rfl rfl ⟨rfl,rfl,trivial⟩ ?_;exact⟨rfl,rfl⟩;refine q9 (zn (jg rfl uy u6 rfl (L.mono e) fun U w=>?_));refine qo rfl z1z rfl w fun V x=>?_;refine zt (qj rfl underlying30 rfl (j3 x)) ?_
 obtain⟨g,a⟩:=ze a;refine z2y (T:=jl) (m:=(↑m.rows.length:Int).toNat) (c:=(↑m.rows.length:Int).toNat) rfl underlying64 zo4 (zf rfl g.1) (zf rfl g.1) (Nat.le_refl _) (z3s g) (z3u g) fun q y z k=>?_;refine uq rfl q8n fun b=>?_
 refine jo (i:=0) (vs:=[q]) q9d rfl rfl (aj k) rfl rfl rfl (qg (yj k) kg) ?_;refine qw (uq rfl qbf fun d=>?_)
 refine qw (zt (z05 (fs:=[]) (cs:=[(.pointer (some ⟨b,0,none⟩)),o,(.pointer (some ⟨d,0,none⟩))]) rfl rfl) (jo (i:=0) (vs:=[(.func (.func 105) #[] #[(.pointer (some ⟨b,0,none⟩)),o,(.pointer (some ⟨d,0,none⟩))])]) qah rfl rfl rfl rfl rfl rfl (qg rfl kg) ?_));refine qw (zt (qd (i:=0) q87 rfl rfl rfl) ?_)
 obtain⟨B,C,a⟩:=zq a
 refine z1e (Oc:=[box b [q] 64,y,box d [(.func (.func 105) #[] #[(.pointer (some ⟨b,0,none⟩)),o,(.pointer (some ⟨d,0,none⟩))])] 83]) (Or:=[]++A) (cs:=[(.pointer (some ⟨b,0,none⟩)),o,(.pointer (some ⟨d,0,none⟩))]) (vs:=[(vi 0)]) rfl q5w rfl rfl ((pk 1 rfl (pk 1 rfl (pk 0 rfl (List.Perm.refl _))))) (zd8 k (L.mono e) C) fun W X M s E=>?_
 obtain⟨l,F,rfl,rfl,G⟩:=E;refine qw (zt (qd (i:=0) zj1 rfl rfl rfl) ?_);obtain⟨n,H,a⟩:=zq a;refine zpl (cs:=[]) (vs:=[l,(.bool false)]) (φ:=fun v=>v=(.bool n)) rfl q7z rfl rfl (fun I t u=>zd5 (z4s ((zk2 1 rfl G t u):VRep (xm jl) I l B)) H) fun Y K=>?_
 obtain rfl:=K;refine zt (lu rfl) (zi (.bool (!n)) (zi (vi 0) (z8 (qx ?_))));obtain rfl:=Option.some.inj a
 refine qc (D:=[]) (J:=[box b [l] 64,F,box d [(.func (.func 105) #[] #[(.pointer (some ⟨b,0,none⟩)),o,(.pointer (some ⟨d,0,none⟩))])] 83]) (rs:=[.tmp 2,.tmp 3]) (vs:=[(.bool (!n)),(vi 0)]) ((f.trans e).trans s) rfl rfl ⟨rfl,rfl,trivial⟩ ?_;exact⟨rfl,rfl⟩
theorem q7w:Enters prog 97:=enters_of func97 rfl (by kernel_rfl)
theorem zgc{N:Nat}{R:RH}{p0_:Mach}{a:Value}(c:PRep (je false false) R a p0_){r:Bool}(b:z4w N p0_=some r):CallP prog 96 #[a] R (fun v R'=>v=(.bool r)):=by
 refine qf (args:=[a]) func96 rfl rfl fun A=>?_;rw [z4w] at b;refine zn (zi (.bool false) (qw (qo rfl fe rfl c fun i f=>?_)));obtain⟨d,g,b⟩:=zq b;refine jb rfl q7w rfl (z9y f g) fun j k e h=>?_;obtain rfl:=h
 refine zg (.tuple #[(.bool d.1),(vi d.2)]) (zt (jv rfl rfl) (zt (jv rfl rfl) (zi (.bool d.1) (zi (vi d.2) (qw (zg (.bool d.1) (zi (.bool d.1) (z8 (qx ?_)))))))));obtain rfl:=Option.some.inj b;refine qc (D:=[]) (J:=[]) (rs:=[.tmp 1]) (vs:=[(.bool d.1)]) e rfl rfl ⟨rfl,trivial⟩ ?_;exact⟨rfl,rfl⟩
theorem qbr:Enters prog 96:=enters_of func96 rfl (by kernel_rfl)
theorem q4e: ∀ w,∃ z,(zeroValue 33).run prog w= .ok z w∧z.cells=([.slice none 0 0]:List Value).toArray:=fun w=>⟨vs0,by kernel_rfl,rfl⟩
theorem za3: ∀ w,∃ z,(zeroValue 3).run prog w= .ok z w∧z.cells=([.int .i64 0]:List Value).toArray:=fun w=>⟨(vi 0),by kernel_rfl,rfl⟩
theorem zgv: ∀ w,(sizeOf 33).run prog w= .ok 1 w:=fun w=>by kernel_rfl
theorem zj7{N:Nat}{R:RH}{m:Mach}{a:Value}(d:VRep (je false false) R a m){r:Mach}(b:z8u N m=some r):CallP prog 107 #[a] R (fun v R'=> ∃ f,v= .func (.func 112) #[] #[f]∧PRep (je false false) R' f r):=by
 refine qf (args:=[a]) func107 rfl rfl fun A=>?_;rw [z8u] at b;refine zn (jy (T:=(je false false)) rfl rfl rfl d fun c h e i g=>?_);refine zi .nilFunc (qw (zt (z05 (fs:=[]) (cs:=[c]) rfl rfl) (zi (.func (.func 112) #[] #[c]) (z8 (qx ?_)))));obtain rfl:=Option.some.inj b
 refine qc (D:=[]) (J:=[]) (rs:=[.tmp 2]) (vs:=[(.func (.func 112) #[] #[c])]) e rfl rfl ⟨rfl,trivial⟩ ?_;exact⟨rfl,⟨c,rfl,g⟩⟩
theorem q9a:Enters prog 107:=enters_of func107 rfl (by kernel_rfl)
theorem q5l: ∀ w,∃ z,(zeroValue 172).run prog w= .ok z w∧z.cells=((yh (zbu 16 (List.replicate 16 (((0:Int),(0:Int)):(Int×Int)))))).toArray:=fun w=>⟨(.agg #[(vi 0),(vi 0),(vi 0),(vi 0),(vi 0),(vi 0),(vi 0),(vi 0),(vi 0),(vi 0),(vi 0),(vi 0),(vi 0),(vi 0),(vi 0),(vi 0),(vi 0),(vi 0),(vi 0),(vi 0),(vi 0),(vi 0),(vi 0),(vi 0),(vi 0),(vi 0),(vi 0),(vi 0),(vi 0),(vi 0),(vi 0),(vi 0)]),by kernel_rfl,by kernel_rfl⟩
theorem q5s:ArrOk prog 172 16 2:=zlp (e:=68) underlying172 (fun w=>by kernel_rfl)
theorem qbo:ArrOk prog 68 2 1:=zlp (e:=3) underlying68 (fun w=>by kernel_rfl)
theorem q63: ∀ w,(isAgg 172).run prog w= .ok true w:=fun w=>by kernel_rfl
theorem q36: ∀ w,(sizeOf 172).run prog w= .ok 32 w:=fun w=>by kernel_rfl
theorem zme{N:Nat}{R:RH}{m:Mach}{n:Value}(O:VRep (je false false) R n m){p:(List Int)}{h:Value}(P:VRep (tSl false (zw .i64)) R h p){s:Int}{r:(Arr 16 (Int×Int))}(k:z8w N m p s=some r):CallP prog 117 #[n,h,(vi s)] R (fun v R'=>v=(z6z r)):=by
 refine qf (args:=[n,h,(vi s)]) func117 rfl rfl fun A=>?_;rw [z8w] at k;refine zn (jy (T:=(je false false)) rfl rfl rfl O fun v1 R3 C h5 h2=>?_);refine uq rfl q5l fun M=>?_;refine qw (uq rfl q5l fun B=>?_);refine z8 ?_;obtain⟨e,b,k⟩:=zq k
 refine qm (γ:=((Arr 16 (Int×Int)))) (rs [8,38]) (fun g=>[]) (fun g=>[box M (yh (zbu 16 (List.replicate 16 (((0:Int),(0:Int)):(Int×Int))))) 172,box B (yh g) 172]++A) (fun g R=>e=g∧True) ?_ ?_;refine zn (jg rfl uy u6 rfl h2 fun ab Q=>?_);refine qo rfl z1z rfl Q fun ac S=>?_
 refine zg (vi s) ?_;obtain⟨E,b⟩:=ze b;refine ko (i:=s.toNat) rfl za6 rfl (j3 S) (zf rfl E.1) (zz E) fun ad U=>?_;refine qo rfl z97 rfl U fun ae F=>?_
 refine zt (qj rfl underlying97 rfl (j3 F)) (zg (vi 0) (z8 (zy (ja (γ:=Nat×Int×((Arr 16 (Int×Int)))) (rs [8,10,16,38]) (fun g=>[(16,(vi g.2.1))]) (fun g=>[box M (yh (zbu 16 (List.replicate 16 (((0:Int),(0:Int)):(Int×Int))))) 172,box B (yh g.2.2) 172]++A) (fun g R=>rf N m p s g.1 g.2.1 g.2.2=some e∧True) (fun g=>g.1) (N,0,(zbu 16 (List.replicate 16 (((0:Int),(0:Int)):(Int×Int))))) ⟨[],(pk 1 rfl (pk 0 rfl (List.Perm.refl _)))⟩ ⟨b,trivial⟩ ?_))))
 clear b;rintro⟨l,a,d⟩ af ag f ⟨b,_⟩;rcases l with _|l;exact qp b;replace b:rf N m p s (l+1) a d=some e:=b;rw [rf] at b;refine zn (zt (j5 rfl rfl) (z8 (qa (zu rfl b (fun b=>?_) (fun b=>?_)))));refine q9 ?_;obtain⟨t,c,b⟩:=zq b
 refine qm (γ:=((Arr 16 (Int×Int)))) (rs [8,10,18,37]) (fun g=>[]) (fun g=>[box M (yh (zbu 16 (List.replicate 16 (((0:Int),(0:Int)):(Int×Int))))) 172,box B (yh g) 172]++A) (fun g R=>t=g∧True) ?_ ?_;refine zy (zn (zg (vi a) ?_));obtain⟨G,c⟩:=ze c
 refine ko (i:=a.toNat) rfl zaf rfl (j3 (F.mono f)) (zf rfl G.1) (zz G) fun ah V=>?_;refine qo rfl zai rfl V fun ai W=>?_;obtain rfl:=z0c.1 W;refine uq rfl za1 fun u=>?_
 refine zi (vi a) (jo (i:=0) (vs:=[(vi ((ix (ix m.rows s) a).to)),(vi ((ix (ix m.rows s) a).out))]) z6j rfl rfl rfl rfl rfl rfl (qg rfl (qg rfl kg)) ?_)
 refine qw (zg (vi a) (zt (qb z8l rfl) (zt (qd (i:=0) ag3 rfl rfl rfl) (zt (yw (ps:=[(0,(vi ((ix (ix m.rows s) a).out))),(1,(vi (-1)))]) (v:=(.agg #[(vi ((ix (ix m.rows s) a).out)),(vi (-1))])) rfl (fun w=>by kernel_rfl)) ?_))));obtain⟨x,c⟩:=ze c
 refine zt (z8b (i:=a.toNat) q5s rfl (zf rfl x.1) (Nat.lt_of_lt_of_eq (zz x) d.2)) (zo7 (sz:=2) (cl:=z2g) (z:=(((ix (ix m.rows s) a).out,(-1)):(Int×Int))) (vs:=[(vi ((ix (ix m.rows s) a).out)),(vi (-1))]) (q:=a) (i:=a.toNat) (o:=0) (j:=2) (X:=d) co_A2tInti64.len q6s rfl rfl (by omega) rfl (Nat.lt_of_lt_of_eq (zz x) d.2) rfl rfl rfl (qg rfl (qg rfl kg)) rfl rfl ?_)
 refine qw (zt (qb o8 rfl) (zt (qd (i:=0) ag3 rfl rfl rfl) (zt (vk rfl rfl) (z8 (zu rfl c (fun c=>?_) (fun c=>?_))))));refine z4q 8 mixed (by kernel_rfl) (by kernel_rfl) ?_;refine uf (v:=(vi a)) (zb rfl) ?_;refine uf (v:=h) (zb rfl) ?_
 refine uf (v:=(.pointer (some ⟨u,0,none⟩))) (qb o8 rfl) ?_;refine uf (v:=(vi ((ix (ix m.rows s) a).to))) (qd (i:=0) ag3 rfl rfl rfl) ?_;obtain⟨H,c⟩:=ze c;refine z3i (vg (i:=((ix (ix m.rows s) a).to).toNat) tu rfl (j3 (P.mono (C.trans f))) (zf rfl H.1) (zz H)) fun aj Y=>?_
 refine uf (ow (jr ty3 rfl Y)) ?_;obtain⟨y,c⟩:=ze c;refine uf (v:=(.pointer (some ⟨B,0+a.toNat*2,none⟩))) (z8b (i:=a.toNat) q5s rfl (zf rfl y.1) (Nat.lt_of_lt_of_eq (zz y) (z5o d a (((ix (ix m.rows s) a).out,(-1)):(Int×Int))).2)) ?_
 refine uf (v:=(.pointer (some ⟨B,0+a.toNat*2+1*1,none⟩))) (z8b (i:=1) qbo rfl rfl (by decide)) ?_;intro ak I
 refine zo7 (sz:=2) (cl:=z2g) (z:=(((ix (z5o d a (((ix (ix m.rows s) a).out,(-1)):(Int×Int))).1 a).1,(ix p ((ix (ix m.rows s) a).to))):(Int×Int))) (vs:=[(vi (ix p ((ix (ix m.rows s) a).to)))]) (q:=a) (i:=a.toNat) (o:=1) (j:=2) (X:=(z5o d a (((ix (ix m.rows s) a).out,(-1)):(Int×Int)))) co_A2tInti64.len sz3 rfl rfl (by omega) rfl (Nat.lt_of_lt_of_eq (zz y) (z5o d a (((ix (ix m.rows s) a).out,(-1)):(Int×Int))).2) rfl rfl rfl (qg rfl kg) rfl rfl ?_
 refine z8 ?_
 exact⟨dkt,I,jd,(z5o (z5o d a (((ix (ix m.rows s) a).out,(-1)):(Int×Int))) a (((ix (z5o d a (((ix (ix m.rows s) a).out,(-1)):(Int×Int))).1 a).1,(ix p ((ix (ix m.rows s) a).to))):(Int×Int))),trivial,⟨[box u [(vi ((ix (ix m.rows s) a).to)),(vi ((ix (ix m.rows s) a).out))] 100],(List.Perm.refl _)⟩,(Option.some.inj c).symm,trivial⟩
 refine q9 ?_;exact⟨dkt,(RH.le.refl _),jd,(z5o d a (((ix (ix m.rows s) a).out,(-1)):(Int×Int))),trivial,⟨[box u [(vi ((ix (ix m.rows s) a).to)),(vi ((ix (ix m.rows s) a).out))] 100],(List.Perm.refl _)⟩,(Option.some.inj c).symm,trivial⟩;rintro t al am K ⟨rfl,_⟩;refine zx ?_;obtain⟨Z,b⟩:=ze b
 refine zt (qz rfl rfl Z) (zg (vi (a+1)) (z8 ?_));exact⟨dkt,K,jd,(l,a+1,t),Nat.lt_succ_self _,⟨rfl,trivial⟩,prm,b,trivial⟩;refine jf ?_;exact⟨dkt,f,jd,d,trivial,prm,(Option.some.inj b).symm,trivial⟩;rintro e an ao L ⟨rfl,_⟩
 refine zn (zt (zbo (j:=1) (v:=(z6z e)) q63 q36 rfl rfl (co_A16A2tInti64.len _) rfl) (zkm (j:=0) (cs:=(yh (zbu 16 (List.replicate 16 (((0:Int),(0:Int)):(Int×Int)))))) (cs':=(yh e)) q36 rfl rfl (co_A16A2tInti64.len _) (co_A16A2tInti64.len _) rfl rfl (zom (ze6 _)) ?_));refine z8 (qx ?_)
 obtain rfl:=Option.some.inj k;refine qc (D:=[]) (J:=[box M (yh e) 172,box B (yh e) 172]) (rs:=[.cell 6 172]) (vs:=[(z6z e)]) (C.trans L) rfl rfl ⟨⟨_,rfl,fun w hh=>zyt (i:=0) hh rfl q63 q36 (co_A16A2tInti64.len _)⟩,trivial⟩ ?_;exact⟨rfl,rfl⟩
theorem q82:Enters prog 117:=enters_of func117 rfl (by kernel_rfl)
theorem q5o: ∀ w,∃ z,(zeroValue 175).run prog w= .ok z w∧z.cells=((oh (⟨(0:Int),(zbu 16 (List.replicate 16 (((0:Int),(0:Int)):(Int×Int))))⟩:Sb))).toArray:=fun w=>⟨(.agg #[(vi 0),(vi 0),(vi 0),(vi 0),(vi 0),(vi 0),(vi 0),(vi 0),(vi 0),(vi 0),(vi 0),(vi 0),(vi 0),(vi 0),(vi 0),(vi 0),(vi 0),(vi 0),(vi 0),(vi 0),(vi 0),(vi 0),(vi 0),(vi 0),(vi 0),(vi 0),(vi 0),(vi 0),(vi 0),(vi 0),(vi 0),(vi 0),(vi 0)]),by kernel_rfl,by kernel_rfl⟩
theorem zwn: ∀ w,(sizeOf 175).run prog w= .ok 33 w:=fun w=>by kernel_rfl
theorem q1m: ∀ w,(isAgg 175).run prog w= .ok true w:=fun w=>by kernel_rfl
theorem mz3: ∀ w,(zeroValue 3).run prog w= .ok ((Value.int .i64) (0:Int)) w:=fun w=>by kernel_rfl
theorem kt3:KTy prog 3 1 1 false (fun cs=> ∃ x,cs=[.int .i64 x]):=q3v underlying3 (by kernel_rfl)
theorem q9x:KTy prog 68 2 (2*1) true (znw 2 (fun cs=> ∃ x,cs=[.int .i64 x])):=zwy underlying68 (by kernel_rfl) kt3
theorem q5q(x:(Int×Int)):znw 2 (fun cs=> ∃ x,cs=[.int .i64 x]) (z2g x):=⟨[[(vi x.1)],[(vi x.2)]],rfl,by
      intro c a
      simp only [List.mem_cons,List.not_mem_nil,or_false] at a
      rcases a with rfl|rfl
      · exact⟨x.1,rfl⟩
      · exact⟨x.2,rfl⟩,rfl⟩
theorem kt172:KTy prog 172 3 (16*2) true (znw 16 (znw 2 (fun cs=> ∃ x,cs=[.int .i64 x]))):=zwy underlying172 (by kernel_rfl) q9x
theorem q6n(x:Sb):(fun cs=> ∃ a b,(fun cs=> ∃ x,cs=[.int .i64 x]) a∧(fun cs=> ∃ a b,(znw 16 (znw 2 (fun cs=> ∃ x,cs=[.int .i64 x]))) a∧(fun cs=>cs=[]) b∧cs=a++b) b∧cs=a++b) (oh x):=⟨_,_,⟨x.fAj,rfl⟩,⟨_,_,(q44 (fun x=>(q5q x)) x.fAd),rfl,(List.append_nil _).symm⟩,rfl⟩
theorem q8y:KTy prog 175 4 33 true (fun cs=> ∃ a b,(fun cs=> ∃ x,cs=[.int .i64 x]) a∧(fun cs=> ∃ a b,(znw 16 (znw 2 (fun cs=> ∃ x,cs=[.int .i64 x]))) a∧(fun cs=>cs=[]) b∧cs=a++b) b∧cs=a++b):=ztv underlying175 (by kernel_rfl) (by kernel_rfl) (.cons (by decide) rfl (kt3.mono (by decide)) (.cons (by decide) rfl (kt172.mono (by decide)) .nil)) (by
  rintro cs ⟨e,f,c,⟨g,h,d,rfl,rfl⟩,rfl⟩
  simp only [List.length_append,List.length_nil,kt3.len _ c,kt172.len _ d])
theorem q0s:KOk prog 175 z0z:=q37 q8y (by decide) (by rw [underlying175]) (fun _=>rfl) (fun x=>(q6n x)) zkx ze4
theorem zhq{N:Nat}{R:RH}{m:Mach}{G:Value}(H:VRep (je false false) R G m){p:(List Int)}{o:Value}(y:VRep (tSl false (zw .i64)) R o p){r:(List Int)}(q:z5x N m p=some r):CallP prog 113 #[G,o] R (fun v R'=>VRep (tSl true (zw .i64)) R' v r):=by
 refine qf (args:=[G,o]) func113 rfl rfl fun A=>?_;rw [z5x] at q;refine zn (jy (T:=(je false false)) rfl rfl rfl H fun v1 R3 n h5 h2=>?_);refine zi vs0 (qw (zmk (ke:=z0z) (ve:=(Value.int .i64)) rfl fun I f7 h8=>?_))
 refine zi I (qw (zg o (zt (qj rfl underlying33 rfl (j3 (y.mono n))) ?_)));obtain⟨z,q⟩:=ze q;refine z2y (T:=(zw .i64)) (m:=(↑p.length:Int).toNat) (c:=(↑p.length:Int).toNat) rfl underlying33 zo3 (zf rfl z.1) (zf rfl z.1) (Nat.le_refl _) (z3s z) (z3u z) fun f Z K aa=>?_
 refine zi f (z8 ?_);obtain⟨s,b,q⟩:=zq q;refine qm (γ:=(List Int)×Frag) (rs [7,12,16,48]) (fun g=>[]) (fun g=>[g.2]++A) (fun g R=>s=g.1∧ORep (zw .i64) R g.2 f g.1∧capOf f=g.1.length∧True) ?_ ?_
 refine zn (zg o (zt (qj rfl underlying33 rfl (j3 (y.mono n))) (zg (vi 0) (z8 (zy (ja (γ:=Nat×Int×(List (Sb×Int))×(List Int)×Frag×Frag) (rs [7,12,18,48]) (fun g=>[(18,(vi g.2.1))]) (fun g=>[g.2.2.2.2.1,g.2.2.2.2.2]++A) (fun g R=>su N m p g.1 g.2.1 g.2.2.1 g.2.2.2.1=some s∧MRep z0z (Value.int .i64) R g.2.2.2.2.1 I g.2.2.1∧ORep (zw .i64) R g.2.2.2.2.2 f g.2.2.2.1∧capOf f=g.2.2.2.1.length∧True) (fun g=>g.1) (N,0,[],(mk (↑p.length:Int) (0:Int)),f7,Z) ⟨[],(pk 1 rfl (pk 0 rfl (List.Perm.refl _)))⟩ ⟨b,h8,aa,(K.trans List.length_replicate.symm),trivial⟩ ?_))))))
 clear b;rintro⟨B,a,h,L,P,Q⟩ av aw l ⟨b,C,M,F,_⟩;rcases B with _|B;exact qp b;replace b:su N m p (B+1) a h L=some s:=b;rw [su] at b;refine zn (zt (j5 rfl rfl) (z8 (qa (zu rfl b (fun b=>?_) (fun b=>?_)))))
 refine q9 (qa (zy (zn (zg (vi a) ?_))));obtain⟨S,b⟩:=ze b;refine ko (i:=a.toNat) rfl tu rfl (j3 (y.mono (n.trans l))) (zf rfl S.1) (zz S) fun ax ab=>?_;refine qo rfl ty3 rfl ab fun ay ac=>?_;obtain rfl:=j6.1 ac
 refine zi (vi a) (zi (vi (ix p a)) (qw (zg (vi (ix p a)) (zt (jh fe rfl rfl (h5.mono l) (H.mono (n.trans l))) (zg o (zg (vi a) ?_))))));obtain⟨d,ad,b⟩:=zq b;refine jb rfl q82 rfl (zme (H.mono (n.trans l)) (y.mono (n.trans l)) ad) fun az aA e ae=>?_
 obtain rfl:=ae
 refine zt (zut (ps:=[(0,(vi (ix p a))),(1,(z6z d))]) (pls:= #[(0,1),(1,32)]) (out:=(oh (⟨(ix p a),d⟩:Sb))) (k:=33) (v:=(z0z (⟨(ix p a),d⟩:Sb))) rfl underlying175 (q3n (co_Srefines_key.len _) q5o) (fun w=>by kernel_rfl) (.cons rfl rfl (.last rfl (by simp only [co_A16A2tInti64.len];rfl))) (co_Srefines_key.len _) rfl) (uq rfl q5o fun U=>?_)
 refine zkm (j:=0) (cs:=(oh (⟨(0:Int),(zbu 16 (List.replicate 16 (((0:Int),(0:Int)):(Int×Int))))⟩:Sb))) (cs':=(oh (⟨(ix p a),d⟩:Sb))) zwn rfl rfl (co_Srefines_key.len _) (co_Srefines_key.len _) rfl rfl (zom (ze4 _)) ?_;refine z8 ?_;obtain⟨E,t,b⟩:=zq b
 refine qm (γ:=(List (Sb×Int))×Frag) (rs [10,12,29,41]) (fun g=>[]) (fun g=>[g.2,Q,box U (oh (⟨(ix p a),d⟩:Sb)) 175]++A) (fun g R=>E=g.1∧MRep z0z (Value.int .i64) R g.2 I g.1∧True) ?_ ?_
 refine zn (zg I (zt (zbo (j:=0) (v:=(z0z (⟨(ix p a),d⟩:Sb))) q1m zwn rfl rfl (co_Srefines_key.len _) rfl) (zt (zsp (k:=(⟨(ix p a),d⟩:Sb)) underlying170 q0s mz3 (zl6 (i:=1) rfl (C.mono e)) rfl rfl) (zg (.tuple #[(vi (z7w (0:Int) h (⟨(ix p a),d⟩:Sb))),(.bool (z8n h (⟨(ix p a),d⟩:Sb)))]) (zt (jv rfl rfl) (zt (jv rfl rfl) (zi (vi (z7w (0:Int) h (⟨(ix p a),d⟩:Sb))) (zi (.bool (z8n h (⟨(ix p a),d⟩:Sb))) (qw (zg (.bool (z8n h (⟨(ix p a),d⟩:Sb))) (zt (lu rfl) (z8 (zu rfl t (fun t=>?_) (fun t=>?_))))))))))))))
 refine zx (zg I (zt (zbo (j:=0) (v:=(z0z (⟨(ix p a),d⟩:Sb))) q1m zwn rfl rfl (co_Srefines_key.len _) rfl) (zg I (zt (q30 rfl underlying170 rfl (zl6 (i:=1) rfl (C.mono e))) (zi0 (i:=1) (k:=(⟨(ix p a),d⟩:Sb)) (u:=(↑h.length:Int)) underlying170 q0s rfl (C.mono e) rfl rfl rfl fun af ag=>?_)))))
 refine z8 ?_;exact⟨dkt,(RH.le.refl _),jd,((zad h (⟨(ix p a),d⟩:Sb) (↑h.length:Int)),af),trivial,⟨[],(pk 1 rfl (pk 1 rfl (pk 0 rfl (List.Perm.refl _))))⟩,(Option.some.inj t).symm,ag,trivial⟩;refine q9 ?_
 exact⟨dkt,(RH.le.refl _),jd,(h,P),trivial,⟨[],(pk 1 rfl (pk 1 rfl (pk 0 rfl (List.Perm.refl _))))⟩,(Option.some.inj t).symm,(C.mono e),trivial⟩;rintro⟨E,ah⟩ aB aC x ⟨rfl,V,_⟩
 refine zx (zg f (zg (vi a) (zg I (zt (zbo (j:=2) (v:=(z0z (⟨(ix p a),d⟩:Sb))) q1m zwn rfl rfl (co_Srefines_key.len _) rfl) (zt (zmo (k:=(⟨(ix p a),d⟩:Sb)) underlying170 q0s mz3 (zl6 (i:=0) rfl V) rfl rfl) ?_)))));obtain⟨O,b⟩:=ze b
 refine uu (i:=a.toNat) rfl tu rfl (M.mono (e.trans x)) (zf rfl O.1) (zz O) fun aD ai=>?_;refine og (i:=a.toNat) (j:=1) ty3 (M.mono (e.trans x)) rfl rfl ai (zz O) rfl (j6.2 rfl) fun aj ak=>?_;refine z8 (zx ?_);obtain⟨al,b⟩:=ze b
 refine zt (qz rfl rfl al) (zg (vi (a+1)) (z8 ?_))
 exact⟨dkt,(e.trans x),jd,(B,a+1,E,(up L a (z7w (0:Int) E (⟨(ix p a),d⟩:Sb))),ah,aj),Nat.lt_succ_self _,⟨rfl,trivial⟩,⟨[box U (oh (⟨(ix p a),d⟩:Sb)) 175],(pk 2 rfl (pk 0 rfl (pk 0 rfl (List.Perm.refl _))))⟩,b,V,ak,(F.trans List.length_set.symm),trivial⟩;refine jf ?_
 exact⟨dkt,l,jd,(L,Q),trivial,⟨[P],(List.Perm.refl _)⟩,(Option.some.inj b).symm,M,F,trivial⟩;rintro⟨s,aE⟩ aF aG W ⟨rfl,am,X,_⟩;refine zn (zg f (zi f (z8 (vo (i:=0) rfl am fun an Y ao=>?_))));have ap:VRep (tSl true (zw .i64)) an f s:=(z1s ao X);refine qx ?_;obtain rfl:=Option.some.inj q
 refine qc (D:=[]) (J:=[]) (rs:=[.tmp 4]) (vs:=[f]) ((n.trans W).trans Y) rfl rfl ⟨rfl,trivial⟩ ?_;exact⟨rfl,ap⟩
theorem q8q:Enters prog 113:=enters_of func113 rfl (by kernel_rfl)
theorem z7t{N:Nat}{R:RH}{s1_:(List Int)}{b:Value}(e:VRep (tSl false (zw .i64)) R b s1_){s2_:(List Int)}{d:Value}(f:VRep (tSl false (zw .i64)) R d s2_){r:Bool}(c:slices_Equal_int N s1_ s2_=some r):CallP prog 47 #[b,d] R (fun v R'=>v=(.bool r)):=by
 refine qf (args:=[b,d]) func47 rfl rfl fun A=>?_;rw [slices_Equal_int] at c;refine zn (zi (.bool false) (z8 (qa (zn (zg b (zt (qj rfl underlying33 rfl (j3 e)) (zg d (zt (qj rfl underlying33 rfl (j3 f)) (zt (vk rfl rfl) (z8 (zu rfl c (fun c=>?_) (fun c=>?_))))))))))))
 refine zn (zi (.bool false) (z8 (qx ?_)));obtain rfl:=Option.some.inj c;refine qc (D:=[]) (J:=[]) (rs:=[.tmp 4]) (vs:=[(.bool false)]) (RH.le.refl _) rfl rfl ⟨rfl,trivial⟩ ?_;exact⟨rfl,rfl⟩;refine q9 ?_;obtain⟨o,a,c⟩:=zq c;refine qm (γ:=Unit) (rs [4,6,11,26]) (fun g=>[]) (fun g=>[]++A) (fun g R=>o=Ex.go g∧True) ?_ ?_
 refine zn (zg b (zt (qj rfl underlying33 rfl (j3 e)) (zg (vi 0) (z8 (zy (ja (γ:=Nat×Int) (rs [4,6,13,26]) (fun g=>[(13,(vi g.2))]) (fun g=>[]++A) (fun g R=>ax N s1_ s2_ g.1 g.2=some o∧True) (fun g=>g.1) (N,0) prm ⟨a,trivial⟩ ?_))))));clear a;rintro⟨n,h⟩ u B j ⟨a,_⟩
 rcases n with _|n;exact qp a;replace a:ax N s1_ s2_ (n+1) h=some o:=a;rw [ax] at a;refine zn (zt (j5 rfl rfl) (z8 (qa (zu rfl a (fun a=>?_) (fun a=>?_)))))
 refine q9 (qa (zy (zn (zg (vi h) (zi (vi h) (z8 (qa (z4q 9 mixed (by kernel_rfl) (by kernel_rfl) ?_))))))));refine uf (v:=b) (zb rfl) ?_;refine uf (v:=(vi h)) (zb rfl) ?_;obtain⟨l,a⟩:=ze a
 refine z3i (vg (i:=h.toNat) tu rfl (j3 (e.mono j)) (zf rfl l.1) (zz l)) fun w p=>?_;refine uf (ow (jr ty3 rfl p)) ?_;refine uf (v:=d) (zb rfl) ?_;refine uf (v:=(vi h)) (zb rfl) ?_;obtain⟨m,a⟩:=ze a
 refine z3i (vg (i:=h.toNat) tu rfl (j3 (f.mono j)) (zf rfl m.1) (zz m)) fun x q=>?_;refine uf (ow (jr ty3 rfl q)) ?_;refine uf (vk rfl rfl) ?_;intro y k;refine z8 (zu rfl a (fun a=>?_) (fun a=>?_));refine zn (zi (.bool false) (z8 (qx ?_)));replace c:=z3f a c
 obtain rfl:=Option.some.inj c;refine qc (D:=[]) (J:=[]) (rs:=[.tmp 4]) (vs:=[(.bool false)]) (j.trans k) rfl rfl ⟨rfl,trivial⟩ ?_;exact⟨rfl,rfl⟩;refine q9 (zx ?_);obtain⟨s,a⟩:=ze a;refine zt (qz rfl rfl s) (zg (vi (h+1)) (z8 ?_));exact⟨dkt,k,jd,(n,h+1),Nat.lt_succ_self _,⟨rfl,trivial⟩,prm,a,trivial⟩
 refine jf ?_;exact⟨dkt,j,jd,(),trivial,prm,(Option.some.inj a).symm,trivial⟩;rintro C z E t ⟨rfl,_⟩;replace c:=z5c c;refine zn (zi (.bool true) (z8 (qx ?_)));obtain rfl:=Option.some.inj c;refine qc (D:=[]) (J:=[]) (rs:=[.tmp 4]) (vs:=[(.bool true)]) t rfl rfl ⟨rfl,trivial⟩ ?_;exact⟨rfl,rfl⟩
end GV
end Go.Proofs.YtplgbkaollfmkaaGreat
