import Derived.Test.YtplgbkaollfmkaaShWa
import Derived.Test.YtplgbkaollfmkaaRows
set_option linter.unusedVariables false
set_option linter.unusedSimpArgs false
namespace Go.Proofs.Ytplgbkaollfmkaa
namespace GV
open _root_.Go.Proofs.Try
open Go.IntWalk
set_option maxRecDepth 100000
set_option maxHeartbeats 20000000
theorem um:FieldOk prog 24 2 2:=by
 obtain⟨i,hi,a⟩: ∃ i,prog.info? 22=some i∧i.size=1:=kv (by kernel_rfl);exact ut underlying24 rfl rfl hi (by rw [a];rfl)
theorem z0t{a b:Bool}:TyOk prog 22 (tSl a (tSl b kEdge)):=by
 obtain⟨i,hi,c⟩: ∃ i,prog.info? 22=some i∧i.size=1:=kv (by kernel_rfl);exact z3n underlying22 hi rfl c
theorem z7p{a:Bool}:TyOk prog 26 (tSl a kEdge):=by
 obtain⟨i,hi,b⟩: ∃ i,prog.info? 26=some i∧i.size=1:=kv (by kernel_rfl);exact z3n underlying26 hi rfl b
theorem z8p{a:Bool}:SlOk prog 22 26 (tSl a kEdge):=⟨underlying22,z7p⟩
theorem fe{a b:Bool}:TyOk prog 24 (je a b):=by
 obtain⟨i,hi,c⟩: ∃ i,prog.info? 24=some i∧i.size=3:=kv (by kernel_rfl);exact z3n underlying24 hi rfl c
theorem l6:FieldOk prog 24 0 0:=by
 obtain⟨i,hi,a⟩: ∃ i,prog.info? 3=some i∧i.size=1:=kv (by kernel_rfl);exact ut underlying24 rfl rfl hi (by rw [a];rfl)
theorem ty3:TyOk prog 3 (zx .i64):=by
 obtain⟨i,hi,a⟩: ∃ i,prog.info? 3=some i∧i.size=1:=kv (by kernel_rfl);exact z3n underlying3 hi rfl a
theorem zd4:FieldOk prog 24 1 1:=by
 obtain⟨i,hi,a⟩: ∃ i,prog.info? 3=some i∧i.size=1:=kv (by kernel_rfl);exact ut underlying24 rfl rfl hi (by rw [a];rfl)
theorem mixed:prog.follows .mixedOrders=true:=by kernel_rfl
theorem zeb:TyOk prog 62 kEdge:=by
 obtain⟨i,hi,a⟩: ∃ i,prog.info? 62=some i∧i.size=2:=kv (by kernel_rfl);exact z3n underlying62 hi rfl a
theorem z8w:SlOk prog 26 62 kEdge:=⟨underlying26,zeb⟩
theorem zdd: ∀ w,∃ z,(zeroValue 62).run prog w= .ok z w∧z.cells=([.int .i64 0,.int .i64 0]:List Value).toArray:=fun w=>⟨(.agg #[(vi 0),(vi 0)]),by kernel_rfl,rfl⟩
theorem z97: ∀ w,(sizeOf 62).run prog w= .ok 2 w:=fun w=>by kernel_rfl
theorem ic:FieldOk prog 62 0 0:=by
 obtain⟨i,hi,a⟩: ∃ i,prog.info? 3=some i∧i.size=1:=kv (by kernel_rfl);exact ut underlying62 rfl rfl hi (by rw [a];rfl)
theorem ag3: ∀ w,(isAgg 3).run prog w= .ok false w:=fun w=>by kernel_rfl
theorem z9i:FieldOk prog 62 1 1:=by
 obtain⟨i,hi,a⟩: ∃ i,prog.info? 3=some i∧i.size=1:=kv (by kernel_rfl);exact ut underlying62 rfl rfl hi (by rw [a];rfl)
theorem zo4:ZeroOk prog 4 jh false 1:=by
 obtain⟨i,zv,hi,a,c,d,f⟩:=z4y (P:=prog) (e:=4) (zv:=(.bool false)) (k:=1) (b:=1) (by kernel_rfl);exact⟨i,zv,hi,a,c,d,fun R=>by subst f;exact rfl⟩
theorem ty4:TyOk prog 4 jh:=by
 obtain⟨i,hi,a⟩: ∃ i,prog.info? 4=some i∧i.size=1:=kv (by kernel_rfl);exact z3n underlying4 hi rfl a
theorem z3p:SlOk prog 78 4 jh:=⟨underlying78,ty4⟩
theorem q7y{a:Bool}:ZeroOk prog 78 (tSl a jh) ([]:List Bool) 24:=by
 obtain⟨i,zv,hi,c,d,f,g⟩:=z4y (P:=prog) (e:=78) (zv:=vs0) (k:=1) (b:=24) (by kernel_rfl);exact⟨i,zv,hi,c,d,f,fun R=>by subst g;exact(ui rfl z2w)⟩
theorem zg8{a:Bool}:TyOk prog 78 (tSl a jh):=by
 obtain⟨i,hi,b⟩: ∃ i,prog.info? 78=some i∧i.size=1:=kv (by kernel_rfl);exact z3n underlying78 hi rfl b
theorem zjs{a:Bool}:SlOk prog 126 78 (tSl a jh):=⟨underlying126,zg8⟩
theorem tu:SlOk prog 25 3 (zx .i64):=⟨underlying25,ty3⟩
theorem zkx{a:Bool}:ZeroOk prog 25 (tSl a (zx .i64)) ([]:List Int) 24:=by
 obtain⟨i,zv,hi,c,d,f,g⟩:=z4y (P:=prog) (e:=25) (zv:=vs0) (k:=1) (b:=24) (by kernel_rfl);exact⟨i,zv,hi,c,d,f,fun R=>by subst g;exact(ui rfl z2w)⟩
theorem zvr: ∀ w,(isAgg 62).run prog w= .ok true w:=fun w=>by kernel_rfl
theorem zb0{N:Nat}{R:RH}{a:(List Int)}{f:Value}(l:VRep (tSl false (zx .i64)) R f a){b:(List Int)}{j:Value}(m:VRep (tSl false (zx .i64)) R j b){r:Int}(d:z0g N a b=some r):CallP prog 46 #[f,j] R (fun v R'=>v=(vi r)):=by
 refine qd (args:=[f,j]) func46 rfl rfl fun A=>?_;rw [z0g] at d;refine zi (zh (vi 0) (z8 (q9 (zi (zg f (zo (qi rfl underlying25 rfl (qy l)) (zg j (zo (qi rfl underlying25 rfl (qy m)) (zo (j3 rfl rfl) (z8 (zu rfl d (fun d=>?_) (fun d=>?_))))))))))))
 refine zi (zh (vi (-1)) (z8 (qm ?_)));obtain rfl:=Option.some.inj d;refine qa (D:=[]) (J:=[]) (rs:=[.tmp 4]) (vs:=[(vi (-1))]) (RH.le.refl _) rfl rfl ⟨rfl,trivial⟩ ?_;exact⟨rfl,rfl⟩
 refine q8 (q9 (zi (zg f (zo (qi rfl underlying25 rfl (qy l)) (zg j (zo (qi rfl underlying25 rfl (qy m)) (zo (z3c rfl rfl) (z8 (zu rfl d (fun d=>?_) (fun d=>?_))))))))));refine zi (zh (vi 1) (z8 (qm ?_)));obtain rfl:=Option.some.inj d
 refine qa (D:=[]) (J:=[]) (rs:=[.tmp 4]) (vs:=[(vi 1)]) (RH.le.refl _) rfl rfl ⟨rfl,trivial⟩ ?_;exact⟨rfl,rfl⟩;refine q8 ?_;obtain⟨u,c,d⟩:=zt d;refine ql (γ:=Unit) (rs [4,6,16,40]) (fun g=>[]) (fun g=>[]++A) (fun g R=>u=Ex.go g∧True) ?_ ?_
 refine zi (zh (vi 0) (z8 (zw (ja (γ:=Nat×Int) (rs [4,6,16,40]) (fun g=>[(5,(vi g.2))]) (fun g=>[]++A) (fun g R=>yh N a b g.1 g.2=some u∧True) (fun g=>g.1) (N,0) prm ⟨c,trivial⟩ ?_))));clear c;rintro⟨t,k⟩ E O e ⟨c,_⟩;rcases t with _|t;exact qp c
 replace c:yh N a b (t+1) k=some u:=c;rw [yh] at c;refine q9 (zi (zg (vi k) (zg f (zo (qi rfl underlying25 rfl (qy (l.mono e))) (zo (j3 rfl rfl) (z8 (zu rfl c (fun c=>?_) (fun c=>?_))))))))
 refine q8 (q9 (zw (q9 (q9 (z3e 9 mixed (by kernel_rfl) (by kernel_rfl) ?_)))));refine u6 (v:=f) (zb rfl) ?_;refine u6 (v:=(vi k)) (zb rfl) ?_;obtain⟨o,c⟩:=zf c;refine z1u (yx (i:=k.toNat) tu rfl (qy (l.mono e)) (ze rfl o.1) (zz o)) fun F w=>?_
 refine u6 (ol (jr ty3 rfl w)) ?_;refine u6 (v:=j) (zb rfl) ?_;refine u6 (v:=(vi k)) (zb rfl) ?_;obtain⟨p,c⟩:=zf c;refine z1u (yx (i:=k.toNat) tu rfl (qy (m.mono e)) (ze rfl p.1) (zz p)) fun G x=>?_;refine u6 (ol (jr ty3 rfl x)) ?_;refine u6 (j3 rfl rfl) ?_;intro H h
 refine z8 (zu rfl c (fun c=>?_) (fun c=>?_));refine zi (zh (vi (-1)) (z8 (qm ?_)));replace d:=z2q c d;obtain rfl:=Option.some.inj d;refine qa (D:=[]) (J:=[]) (rs:=[.tmp 4]) (vs:=[(vi (-1))]) (e.trans h) rfl rfl ⟨rfl,trivial⟩ ?_;exact⟨rfl,rfl⟩
 refine q8 (q9 (z3e 9 mixed (by kernel_rfl) (by kernel_rfl) ?_));refine u6 (v:=f) (zb rfl) ?_;refine u6 (v:=(vi k)) (zb rfl) ?_;obtain⟨q,c⟩:=zf c;refine z1u (yx (i:=k.toNat) tu rfl (qy (l.mono (e.trans h))) (ze rfl q.1) (zz q)) fun I y=>?_;refine u6 (ol (jr ty3 rfl y)) ?_
 refine u6 (v:=j) (zb rfl) ?_;refine u6 (v:=(vi k)) (zb rfl) ?_;obtain⟨s,c⟩:=zf c;refine z1u (yx (i:=k.toNat) tu rfl (qy (m.mono (e.trans h))) (ze rfl s.1) (zz s)) fun K z=>?_;refine u6 (ol (jr ty3 rfl z)) ?_;refine u6 (z3c rfl rfl) ?_;intro L n
 refine z8 (zu rfl c (fun c=>?_) (fun c=>?_));refine zi (zh (vi 1) (z8 (qm ?_)));replace d:=z2q c d;obtain rfl:=Option.some.inj d;refine qa (D:=[]) (J:=[]) (rs:=[.tmp 4]) (vs:=[(vi 1)]) ((e.trans h).trans n) rfl rfl ⟨rfl,trivial⟩ ?_;exact⟨rfl,rfl⟩;refine q8 (zy (zg (vi k) ?_))
 obtain⟨B,c⟩:=zf c;refine zo (qz rfl rfl B) (zh (vi (k+1)) (z8 ?_));exact⟨dkt,(h.trans n),jd,(t,k+1),Nat.lt_succ_self _,⟨rfl,trivial⟩,prm,c,trivial⟩;refine jf ?_;exact⟨dkt,e,jd,(),trivial,prm,(Option.some.inj c).symm,trivial⟩;rintro P M Q C ⟨rfl,_⟩;replace d:=z3u d
 refine zi (zh (vi 0) (z8 (qm ?_)));obtain rfl:=Option.some.inj d;refine qa (D:=[]) (J:=[]) (rs:=[.tmp 4]) (vs:=[(vi 0)]) C rfl rfl ⟨rfl,trivial⟩ ?_;exact⟨rfl,rfl⟩
theorem q6i:Enters prog 46:=enters_of func46 rfl (by kernel_rfl)
theorem pq{N:Nat}{R:RH}{a:(List Int)}{c:Value}(f:VRep (tSl false (zx .i64)) R c a){b:(List Int)}{d:Value}(g:VRep (tSl false (zx .i64)) R d b){r:Bool}(e:uk N a b=some r):CallP prog 17 #[c,d] R (fun v R'=>v=(.bool r)):=by
 refine qd (args:=[c,d]) func17 rfl rfl fun A=>?_;rw [uk] at e;refine zi (zh (.bool false) (qw (zg c (zg d ?_))));obtain⟨i,j,e⟩:=zt e;refine jb rfl q6i rfl (zb0 f g j) fun l m h k=>?_;obtain rfl:=k;refine zo (mg rfl rfl) (zh (.bool (decide (i=0))) (z8 (qm ?_)))
 obtain rfl:=Option.some.inj e;refine qa (D:=[]) (J:=[]) (rs:=[.tmp 4]) (vs:=[(.bool (decide (i=0)))]) h rfl rfl ⟨rfl,trivial⟩ ?_;exact⟨rfl,rfl⟩
theorem zl3:Enters prog 17:=enters_of func17 rfl (by kernel_rfl)
theorem z99{N:Nat}{R:RH}{s:(List Edge)}{c:Value}(k:VRep (tSl false kEdge) R c s){f:Edge→Option Bool}{e:Value}(n:FOk1 prog R e kEdge jh f){r:Int}(b:rq N s f=some r):CallP prog 89 #[c,e] R (fun v R'=>v=(vi r)):=by
 refine qd (args:=[c,e]) func89 rfl rfl fun A=>?_;rw [rq] at b;refine zi (zh (vi 0) (z8 ?_));obtain⟨o,a,b⟩:=zt b;refine ql (γ:=Unit) (rs [4,19]) (fun g=>[]) (fun g=>[]++A) (fun g R=>o=Ex.go g∧True) ?_ ?_
 refine zi (zg c (zo (qi rfl underlying26 rfl (qy k)) (zg (vi 0) (z8 (zw (ja (γ:=Nat×Int) (rs [4,6,8,19]) (fun g=>[(8,(vi g.2))]) (fun g=>[]++A) (fun g R=>uo N s f g.1 g.2=some o∧True) (fun g=>g.1) (N,0) prm ⟨a,trivial⟩ ?_))))));clear a;rintro⟨m,d⟩ y H h ⟨a,_⟩
 rcases m with _|m;exact qp a;replace a:uo N s f (m+1) d=some o:=a;rw [uo] at a;refine zi (zo (j3 rfl rfl) (z8 (q9 (zu rfl a (fun a=>?_) (fun a=>?_)))))
 refine q8 (q9 (zw (zi (zg (vi d) (zh (vi d) (qw (zg e (zg c (zg (vi d) ?_)))))))));obtain⟨l,a⟩:=zf a;refine jv (i:=d.toNat) rfl z8w rfl (qy (k.mono h)) (ze rfl l.1) (zz l) fun z p=>?_;refine qh rfl zeb rfl p fun B q=>?_;obtain rfl:=sw.1 q
 obtain⟨C,t,a⟩:=zt a;refine zl2 rfl rfl rfl ((n.mono h) _ (RH.le.refl _) (ix s d) _ _ (sw.2 rfl) t) fun E F j u=>?_;obtain rfl:=u7.1 u;refine z8 (zu rfl a (fun a=>?_) (fun a=>?_));refine zi (zg (vi d) (zh (vi d) (z8 (qm ?_))));replace b:=z2q a b;obtain rfl:=Option.some.inj b
 refine qa (D:=[]) (J:=[]) (rs:=[.tmp 4]) (vs:=[(vi d)]) (h.trans j) rfl rfl ⟨rfl,trivial⟩ ?_;exact⟨rfl,rfl⟩;refine q8 (zy ?_);obtain⟨w,a⟩:=zf a;refine zo (qz rfl rfl w) (zg (vi (d+1)) (z8 ?_));exact⟨dkt,j,jd,(m,d+1),Nat.lt_succ_self _,⟨rfl,trivial⟩,prm,a,trivial⟩;refine jf ?_
 exact⟨dkt,h,jd,(),trivial,prm,(Option.some.inj a).symm,trivial⟩;rintro I G K x ⟨rfl,_⟩;replace b:=z3u b;refine zi (zh (vi (-1)) (z8 (qm ?_)));obtain rfl:=Option.some.inj b;refine qa (D:=[]) (J:=[]) (rs:=[.tmp 4]) (vs:=[(vi (-1))]) x rfl rfl ⟨rfl,trivial⟩ ?_;exact⟨rfl,rfl⟩
theorem q89:Enters prog 89:=enters_of func89 rfl (by kernel_rfl)
theorem z7w{N:Nat}{R:RH}{s:(List Edge)}{a:Value}(d:VRep (tSl false kEdge) R a s){f:Edge→Option Bool}{b:Value}(e:FOk1 prog R b kEdge jh f){r:Bool}(c:aa N s f=some r):CallP prog 70 #[a,b] R (fun v R'=>v=(.bool r)):=by
 refine qd (args:=[a,b]) func70 rfl rfl fun A=>?_;rw [aa] at c;refine zi (zh (.bool false) (qw (zg a (zg b ?_))));obtain⟨h,i,c⟩:=zt c;refine jb rfl q89 rfl (z99 d e i) fun k l g j=>?_;obtain rfl:=j
 refine zo (z18 rfl rfl) (zh (.bool (decide (0≤h))) (z8 (qm ?_)));obtain rfl:=Option.some.inj c;refine qa (D:=[]) (J:=[]) (rs:=[.tmp 4]) (vs:=[(.bool (decide (0≤h)))]) g rfl rfl ⟨rfl,trivial⟩ ?_;exact⟨rfl,rfl⟩
theorem q6f:Enters prog 70:=enters_of func70 rfl (by kernel_rfl)
theorem z8x{N:Nat}{R:RH}  {r:Edge} (a:z1x N  =some r):CallP prog 86 #[] R (fun v R'=>v=(z15 r)):=by
 refine qd (args:=[]) func86 rfl rfl fun A=>?_;rw [z1x] at a;refine zi (uq rfl zdd fun b=>?_)
 refine qw (zo (gq (ps:=[(0,(vi (-1))),(1,(vi (-1)))]) (v:=(.agg #[(vi (-1)),(vi (-1))])) rfl (fun w=>by kernel_rfl)) (jy (i:=0) (vs:=[(vi (-1)),(vi (-1))]) z97 rfl rfl rfl rfl rfl rfl (qg rfl (qg rfl ko)) ?_));refine z8 (qm ?_);obtain rfl:=Option.some.inj a
 refine qa (D:=[]) (J:=[box b [(vi (-1)),(vi (-1))] 62]) (rs:=[.cell 0 62]) (vs:=[(.agg #[(vi (-1)),(vi (-1))])]) (RH.le.refl _) rfl rfl ⟨⟨_,rfl,fun w c=>z2y (i:=0) c rfl rfl zvr z97 rfl rfl⟩,trivial⟩ ?_;exact⟨rfl,rfl⟩
theorem q3e:Enters prog 86:=enters_of func86 rfl (by kernel_rfl)
theorem q4u:zmj prog 62:=znv (f0:=((prog.fieldsOf 62).toList.getD 0 default)) (f1:=((prog.fieldsOf 62).toList.getD 1 default)) (by kernel_rfl) (by kernel_rfl) (by kernel_rfl) (by kernel_rfl) (by kernel_rfl) (by kernel_rfl) (by kernel_rfl) (by kernel_rfl) (by kernel_rfl) (by kernel_rfl)
theorem zi9{N:Nat}{R:RH}{m:Mach}{p:Value}(w:VRep (je false false) R p m){x:Edge}{r:Bool}(n:zal N m x=some r):CallP prog 72 #[p,(z15 x)] R (fun v R'=>v=(.bool r)):=by
 refine qd (args:=[p,(z15 x)]) func72 rfl rfl fun A=>?_;rw [zal] at n;refine zi (kg (T:=(je false false)) rfl rfl rfl w fun v1 R3 y h5 K=>?_);refine zfy (T:=kEdge) rfl rfl (sw.2 rfl) fun v6 R8 q t=>?_;refine zh (.bool false) (z8 (q9 ?_));obtain⟨b,z,n⟩:=zt n
 let B:=((decide (x.to=b.to∧x.out=b.out))||((((decide (0≤x.to))&&(decide (x.to<(↑m.rows.length:Int))))&&(decide (0≤x.out)))&&(decide (x.out<m.outputs))));let L:=((((decide (0≤x.to))&&(decide (x.to<(↑m.rows.length:Int))))&&(decide (0≤x.out)))&&(decide (x.out<m.outputs)))
 let o:=(((decide (0≤x.to))&&(decide (x.to<(↑m.rows.length:Int))))&&(decide (0≤x.out)));let k:=((decide (0≤x.to))&&(decide (x.to<(↑m.rows.length:Int))));let e:=(true&&((decide (x.to=b.to∧x.out=b.out))==false))
 refine og 29 [] [phX (z15 x),phX (z15 b),phX (.bool (decide (x.to=b.to∧x.out=b.out))),phX (.bool (decide (x.to=b.to∧x.out=b.out))),phG e (phP (zx .i64) x.to),phG e (phX (vi x.to)),phG e (phX (.bool (decide (0≤x.to)))),phG e (phX (.bool (decide (0≤x.to)))),phG (e&&((decide (0≤x.to))==true)) (phP (zx .i64) x.to),phG (e&&((decide (0≤x.to))==true)) (phX (vi x.to)),phG (e&&((decide (0≤x.to))==true)) (phP (tSl false (tSl false kEdge)) m.rows),phG (e&&((decide (0≤x.to))==true)) (phR (tSl false (tSl false kEdge)) m.rows),phG (e&&((decide (0≤x.to))==true)) (phX (vi (↑m.rows.length:Int))),phG (e&&((decide (0≤x.to))==true)) (phX (.bool (decide (x.to<(↑m.rows.length:Int))))),phG e (phX (.bool k)),phG e (phX (.bool k)),phG (e&&(k==true)) (phP (zx .i64) x.out),phG (e&&(k==true)) (phX (vi x.out)),phG (e&&(k==true)) (phX (.bool (decide (0≤x.out)))),phG e (phX (.bool o)),phG e (phX (.bool o)),phG (e&&(o==true)) (phP (zx .i64) x.out),phG (e&&(o==true)) (phX (vi x.out)),phG (e&&(o==true)) (phP (zx .i64) m.outputs),phG (e&&(o==true)) (phX (vi m.outputs)),phG (e&&(o==true)) (phX (.bool (decide (x.out<m.outputs)))),phG e (phX (.bool L)),phX (.bool B),phX (.bool B)] mixed (by kernel_rfl) (di ⟨zk,zk,zk,zk,(qj yc),(qj zk),(qj zk),(qj zk),(qj yc),(qj zk),(qj yc),(qj o5),(qj zk),(qj zk),(qj zk),(qj zk),(qj yc),(qj zk),(qj zk),(qj zk),(qj zk),(qj yc),(qj zk),(qj yc),(qj zk),(qj zk),(qj zk),zk,zk,trivial⟩) ⟨?_,?_,?_,?_,?_,?_,?_,?_,?_,?_,?_,?_,?_,?_,?_,?_,?_,?_,?_,?_,?_,?_,?_,?_,?_,?_,?_,?_,?_,trivial⟩ fun ai u=>?_
 intro l aj a g hd;exact za rfl rfl rfl (uh (kz zeb (g 3 rfl) (t.mono a)) (fun _ _ h=>sw.1 h));intro l al a g hd;exact za rfl rfl rfl (wz (vs:=[]) q3e rfl (z8x  z) (fun _ _ h=>h));rintro l am a g ⟨c,f,_⟩;exact za rfl rfl rfl (zq (zoa q4u (c rfl) (f rfl)));rintro l an a g ⟨c,f,_⟩
 exact za rfl rfl rfl (zq (zb (c rfl)));rintro l ao a g ⟨c,_⟩;exact zl (Gj:=true) (Bj:=decide (x.to=b.to∧x.out=b.out)) rfl rfl rfl (ji (c rfl)) rfl (fun i d=>ik ic z4u (g 3 rfl) (t.mono a));rintro l ap a g ⟨c,f,_⟩
 exact zl (Gj:=true) (Bj:=decide (x.to=b.to∧x.out=b.out)) rfl rfl rfl (ji (f rfl)) rfl (fun i d=>uh (kz ty3 rfl ((c rfl).1 (zn rfl d))) (fun _ _ h=>j5.1 h));rintro l aq a g ⟨c,f,_⟩
 exact zl (Gj:=true) (Bj:=decide (x.to=b.to∧x.out=b.out)) rfl rfl rfl (ji (f rfl)) rfl (fun i d=>zq (z18 (show l 10=(vi x.to) from(c rfl).1 (zn rfl d)) rfl));rintro l ar a g ⟨c,f,j,_⟩
 exact zl (Gj:=true) (Bj:=decide (x.to=b.to∧x.out=b.out)) rfl rfl rfl (ji (f rfl)) rfl (fun i d=>zq (zb (show l 11=(.bool (decide (0≤x.to))) from(c rfl).1 (zn rfl d))));rintro l au a g ⟨c,_⟩;exact zl (Gj:=e) (Bj:=decide (0≤x.to)) rfl rfl rfl (c rfl) rfl (fun i d=>ik ic z4u (g 3 rfl) (t.mono a))
 rintro l av a g ⟨c,f,_⟩;exact zl (Gj:=e) (Bj:=decide (0≤x.to)) rfl rfl rfl (f rfl) rfl (fun i d=>uh (kz ty3 rfl ((c rfl).1 (zn i d))) (fun _ _ h=>j5.1 h));rintro l M a g ⟨c,_⟩;exact zl (Gj:=e) (Bj:=decide (0≤x.to)) rfl rfl rfl (c rfl) rfl (fun i d=>ik um ky (g 2 rfl) ((K.mono q).mono a))
 rintro l O a g ⟨c,f,_⟩;exact zl (Gj:=e) (Bj:=decide (0≤x.to)) rfl rfl rfl (f rfl) rfl (fun i d=>kz z0t rfl ((c rfl).1 (zn i d)));rintro l P a g ⟨c,f,_⟩;exact zl (Gj:=e) (Bj:=decide (0≤x.to)) rfl rfl rfl (f rfl) rfl (fun i d=>zq (qi rfl underlying22 rfl (qy ((c rfl).1 (zn i d)))))
 rintro l Q a g ⟨c,f,j,_⟩;exact zl (Gj:=e) (Bj:=decide (0≤x.to)) rfl rfl rfl (j rfl) rfl (fun i d=>zq (j3 (show l 14=(vi x.to) from(c rfl).1 (zn i d)) (show l 17=(vi (↑m.rows.length:Int)) from(f rfl).1 (zn i d))));rintro l S a g ⟨c,f,j,_⟩
 exact zl (Gj:=true) (Bj:=decide (x.to=b.to∧x.out=b.out)) rfl rfl rfl (ji (j rfl)) rfl (fun i d=>zq (vk (show l 12=(.bool (decide (0≤x.to))) from(c rfl).1 (zn rfl d)) (fun s=>(show l 18=(.bool (decide (x.to<(↑m.rows.length:Int)))) from(f rfl).1 (zn (zn rfl d) s))) rfl));rintro l U a g ⟨c,f,j,_⟩
 exact zl (Gj:=true) (Bj:=decide (x.to=b.to∧x.out=b.out)) rfl rfl rfl (ji (j rfl)) rfl (fun i d=>zq (zb (show l 19=(.bool k) from(c rfl).1 (zn rfl d))));rintro l V a g ⟨c,_⟩
 exact zl (Gj:=e) (Bj:=(decide (0≤x.to))&&(decide (x.to<(↑m.rows.length:Int)))) rfl rfl rfl (c rfl) rfl (fun i d=>ik z9i zp9 (g 3 rfl) (t.mono a));rintro l W a g ⟨c,f,_⟩
 exact zl (Gj:=e) (Bj:=(decide (0≤x.to))&&(decide (x.to<(↑m.rows.length:Int)))) rfl rfl rfl (f rfl) rfl (fun i d=>uh (kz ty3 rfl ((c rfl).1 (zn i d))) (fun _ _ h=>j5.1 h));rintro l X a g ⟨c,f,_⟩
 exact zl (Gj:=e) (Bj:=(decide (0≤x.to))&&(decide (x.to<(↑m.rows.length:Int)))) rfl rfl rfl (f rfl) rfl (fun i d=>zq (z18 (show l 22=(vi x.out) from(c rfl).1 (zn i d)) rfl));rintro l Y a g ⟨c,f,j,_⟩
 exact zl (Gj:=true) (Bj:=decide (x.to=b.to∧x.out=b.out)) rfl rfl rfl (ji (j rfl)) rfl (fun i d=>zq (vk (show l 20=(.bool k) from(c rfl).1 (zn rfl d)) (fun s=>(show l 23=(.bool (decide (0≤x.out))) from(f rfl).1 (zn (zn rfl d) s))) rfl));rintro l Z a g ⟨c,f,j,_⟩
 exact zl (Gj:=true) (Bj:=decide (x.to=b.to∧x.out=b.out)) rfl rfl rfl (ji (j rfl)) rfl (fun i d=>zq (zb (show l 24=(.bool o) from(c rfl).1 (zn rfl d))));rintro l aa a g ⟨c,_⟩;exact zl (Gj:=e) (Bj:=k&&(decide (0≤x.out))) rfl rfl rfl (c rfl) rfl (fun i d=>ik z9i zp9 (g 3 rfl) (t.mono a))
 rintro l ab a g ⟨c,f,_⟩;exact zl (Gj:=e) (Bj:=k&&(decide (0≤x.out))) rfl rfl rfl (f rfl) rfl (fun i d=>uh (kz ty3 rfl ((c rfl).1 (zn i d))) (fun _ _ h=>j5.1 h));rintro l ac a g ⟨c,_⟩
 exact zl (Gj:=e) (Bj:=k&&(decide (0≤x.out))) rfl rfl rfl (c rfl) rfl (fun i d=>ik zd4 z9p (g 2 rfl) ((K.mono q).mono a));rintro l ad a g ⟨c,f,_⟩;exact zl (Gj:=e) (Bj:=k&&(decide (0≤x.out))) rfl rfl rfl (f rfl) rfl (fun i d=>uh (kz ty3 rfl ((c rfl).1 (zn i d))) (fun _ _ h=>j5.1 h))
 rintro l ae a g ⟨c,f,j,_⟩;exact zl (Gj:=e) (Bj:=k&&(decide (0≤x.out))) rfl rfl rfl (j rfl) rfl (fun i d=>zq (j3 (show l 27=(vi x.out) from(c rfl).1 (zn i d)) (show l 29=(vi m.outputs) from(f rfl).1 (zn i d))));rintro l af a g ⟨c,f,j,_⟩
 exact zl (Gj:=true) (Bj:=decide (x.to=b.to∧x.out=b.out)) rfl rfl rfl (ji (j rfl)) rfl (fun i d=>zq (vk (show l 25=(.bool o) from(c rfl).1 (zn rfl d)) (fun s=>(show l 30=(.bool (decide (x.out<m.outputs))) from(f rfl).1 (zn (zn rfl d) s))) rfl));rintro l ag a g ⟨c,f,_⟩
 exact za rfl rfl rfl (zq (z0e (c rfl) rfl (fun s=>(show l 31=(.bool L) from(f rfl).1 (zn rfl s)))));rintro l ah a g ⟨c,f,j,d3,d4,d5,d6,d7,d8,d9,aw,ax,ay,az,aA,aB,aC,aD,aE,aF,aG,aH,aI,aJ,aK,aL,aM,aN,aO,aP,_⟩;exact za rfl rfl rfl (zq (z1e (c rfl)))
 intro aQ C aR E aS F aT G aU aV aW aX aY aZ a0 a1 a2 a3 a4 a5 a6 a7 a8 a9 ba bb bc be bf bg bh bi bj bk bl bm bn bo bp bq br bs bt bu bv bw bx bz bA bB bC bD bE bF bG H bH I;obtain rfl:=Eq.symm C;obtain rfl:=Eq.symm E;obtain rfl:=Eq.symm F;obtain rfl:=Eq.symm G;obtain rfl:=Eq.symm H;obtain rfl:=Eq.symm I
 refine z8 (qm ?_);obtain rfl:=Option.some.inj n;refine qa (D:=[]) (J:=[]) (rs:=[.tmp 4]) (vs:=[(.bool B)]) ((y.trans q).trans u) rfl rfl ⟨rfl,trivial⟩ ?_;exact⟨rfl,rfl⟩
theorem q6s:Enters prog 72:=enters_of func72 rfl (by kernel_rfl)
theorem zey{N:Nat}{R:RH}{x:Edge}{p0_:Mach}{a:Value}(c:PRep (je false false) R a p0_){r:Bool}(b:z7n N x p0_=some r):CallP prog 71 #[(z15 x),a] R (fun v R'=>v=(.bool r)):=by
 refine qd (args:=[(z15 x),a]) func71 rfl rfl fun A=>?_;rw [z7n] at b;refine zi (zfy (T:=kEdge) rfl rfl (sw.2 rfl) fun n o d i=>?_);refine zh (.bool false) (qw (qh rfl fe rfl (c.mono d) fun p j=>?_));refine qh rfl zeb rfl i fun q k=>?_;obtain rfl:=sw.1 k
 obtain⟨h,f,b⟩:=zt b;refine jb rfl q6s rfl (zi9 j f) fun l m e g=>?_;obtain rfl:=g;refine zo (l8 rfl) (zh (.bool (!h)) (z8 (qm ?_)));obtain rfl:=Option.some.inj b;refine qa (D:=[]) (J:=[]) (rs:=[.tmp 3]) (vs:=[(.bool (!h))]) (d.trans e) rfl rfl ⟨rfl,trivial⟩ ?_;exact⟨rfl,rfl⟩
theorem q7f:Enters prog 71:=enters_of func71 rfl (by kernel_rfl)
theorem z2a{N:Nat}{R:RH}{m:Mach}{q:Value}(F:VRep (je false false) R q m){r:Int}(b:iq N m=some r):CallP prog 50 #[q] R (fun v R'=>v=(vi r)):=by
 refine qd (args:=[q]) func50 rfl rfl fun A=>?_;rw [iq] at b;refine zi (kg (T:=(je false false)) rfl rfl rfl F fun E R3 k h5 l=>?_);refine zh (vi 0) (z8 (q9 (zi (zii rfl (wy l6 l5 rfl l) fun v6 h7=>?_))))
 refine jo rfl (ol (jr ty3 rfl h7)) (jo rfl (z3c rfl rfl) (jo (v:=(.bool (decide (16<m.inputs)))) rfl (zb rfl) (j6 rfl rfl rfl rfl (fun c=>wy zd4 z9p rfl l) fun ak G=>?_)));refine j6 rfl rfl rfl rfl (fun c=>j4 (ol (jr ty3 rfl (G.1 (zn rfl c))))) fun al H=>?_
 refine j6 rfl rfl rfl rfl (fun c=>j4 (z3c (H.1 (zn rfl c)) rfl)) fun am I=>?_;refine jo rfl (z0e rfl rfl (fun n=>(I.1 (zn rfl n)))) (jo (v:=(.bool ((decide (16<m.inputs))||(decide (16<m.outputs))))) rfl (zb rfl) (j6 rfl rfl rfl rfl (fun c=>wy um ky rfl l) fun an K=>?_))
 refine j6 rfl rfl rfl rfl (fun c=>jr z0t rfl (K.1 (zn rfl c))) fun ao L=>?_;refine j6 rfl rfl rfl rfl (fun c=>j4 (qi rfl underlying22 rfl (qy (L.1 (zn rfl c))))) fun ap M=>?_;refine j6 rfl rfl rfl rfl (fun c=>j4 (z3c (M.1 (zn rfl c)) rfl)) fun aq O=>?_
 refine jo rfl (z0e rfl rfl (fun n=>(O.1 (zn rfl n)))) (z8 (zu rfl b (fun b=>?_) (fun b=>?_)));refine zi (zh (vi 3) (z8 (qm ?_)));obtain rfl:=Option.some.inj b;refine qa (D:=[]) (J:=[]) (rs:=[.tmp 2]) (vs:=[(vi 3)]) k rfl rfl ⟨rfl,trivial⟩ ?_;exact⟨rfl,rfl⟩
 refine q8 (q9 (zi (zii rfl (wy l6 l5 rfl l) fun ar P=>?_)));refine jo rfl (ol (jr ty3 rfl P)) (jo rfl (j3 rfl rfl) (jo (v:=(.bool (decide (m.inputs<1)))) rfl (zb rfl) (j6 rfl rfl rfl rfl (fun c=>wy zd4 z9p rfl l) fun au Q=>?_)))
 refine j6 rfl rfl rfl rfl (fun c=>j4 (ol (jr ty3 rfl (Q.1 (zn rfl c))))) fun aw S=>?_;refine j6 rfl rfl rfl rfl (fun c=>j4 (j3 (S.1 (zn rfl c)) rfl)) fun ax U=>?_
 refine jo rfl (z0e rfl rfl (fun n=>(U.1 (zn rfl n)))) (jo (v:=(.bool ((decide (m.inputs<1))||(decide (m.outputs<1))))) rfl (zb rfl) (j6 rfl rfl rfl rfl (fun c=>wy um ky rfl l) fun ay V=>?_));refine j6 rfl rfl rfl rfl (fun c=>jr z0t rfl (V.1 (zn rfl c))) fun az W=>?_
 refine j6 rfl rfl rfl rfl (fun c=>j4 (qi rfl underlying22 rfl (qy (W.1 (zn rfl c))))) fun aA X=>?_;refine j6 rfl rfl rfl rfl (fun c=>j4 (j3 (X.1 (zn rfl c)) rfl)) fun aB Y=>?_;refine jo rfl (z0e rfl rfl (fun n=>(Y.1 (zn rfl n)))) (z8 (zu rfl b (fun b=>?_) (fun b=>?_)))
 refine zi (zh (vi 1) (z8 (qm ?_)));obtain rfl:=Option.some.inj b;refine qa (D:=[]) (J:=[]) (rs:=[.tmp 2]) (vs:=[(vi 1)]) k rfl rfl ⟨rfl,trivial⟩ ?_;exact⟨rfl,rfl⟩;refine q8 ?_;obtain⟨s,a,b⟩:=zt b;refine ql (γ:=Unit) (rs [2,3,4,5,33,51]) (fun g=>[]) (fun g=>[]++A) (fun g R=>s=Ex.go g∧True) ?_ ?_
 refine zi (jg rfl um ky rfl l fun aC Z=>?_);refine qh rfl z0t rfl Z fun aD t=>?_
 refine zo (qi rfl underlying22 rfl (qy t)) (zg (vi 0) (z8 (zw (ja (γ:=Nat×Int) (rs [2,3,4,5,36,51]) (fun g=>[(36,(vi g.2))]) (fun g=>[]++A) (fun g R=>av N m g.1 g.2=some s∧True) (fun g=>g.1) (N,0) prm ⟨a,trivial⟩ ?_))));clear a;rintro⟨o,e⟩ ah aE d ⟨a,_⟩;rcases o with _|o
 exact qp a;replace a:av N m (o+1) e=some s:=a;rw [av] at a;refine zi (zo (j3 rfl rfl) (z8 (q9 (zu rfl a (fun a=>?_) (fun a=>?_)))));refine q8 (q9 (zw (zi ?_)));obtain⟨u,a⟩:=zf a
 refine jv (i:=e.toNat) rfl z8p rfl (qy (t.mono d)) (ze rfl u.1) (zz u) fun aF aa=>?_;refine qh rfl z7p rfl aa fun p w=>?_;refine zh p (qw (jo (v:=p) rfl (zb rfl) (jo rfl (qi rfl underlying26 rfl (qy w)) (zii rfl (wy l6 l5 rfl (l.mono d)) fun aG ab=>?_))))
 refine jo rfl (ol (jr ty3 rfl ab)) (jo rfl (xe rfl rfl) (jo (v:=(.bool (decide ((↑(ix m.rows e).length:Int)≠m.inputs)))) rfl (zb rfl) (j6 rfl rfl rfl rfl (fun c=>j4 (v:=p) (zb rfl)) fun aH ac=>?_)))
 refine j6 rfl rfl rfl rfl (fun c=>j4 (v:=(.func (.func 71) #[] #[E])) (iw (fs:=[]) (cs:=[E]) rfl rfl)) fun aI ad=>?_;obtain⟨ae,af,a⟩:=zt a
 refine z1f rfl rfl rfl rfl (fun c=>wz (vs:=[p,(.func (.func 71) #[] #[E])]) q6f (z4z (ac.1 (zn rfl c)) (z4z (ad.1 (zn rfl c)) rfl)) ((by have ag:=(z06 af (zn rfl c));exact z7w w (ziv (cs:=[E]) q7f fun R1 hq z0 u0 y k0 hy=>by obtain rfl:=sw.1 k0;exact CallP.mono (zey ((l.mono d).mono hq) hy) fun v R2 _ hv=>u7.2 hv) ag)) (fun _ _ h=>h)) fun x z f j=>?_
 replace j:phG (true&&((decide ((↑(ix m.rows e).length:Int)≠m.inputs))==false)) (phX (.bool (ae.getD default))) x z:=j;refine jo rfl (z0e rfl rfl (fun n=>(j.1 (zn rfl n)))) (z8 (zu rfl a (fun a=>?_) (fun a=>?_)));refine zi (zh (vi 1) (z8 (qm ?_)));replace b:=z2q a b;obtain rfl:=Option.some.inj b
 refine qa (D:=[]) (J:=[]) (rs:=[.tmp 2]) (vs:=[(vi 1)]) ((k.trans d).trans f) rfl rfl ⟨rfl,trivial⟩ ?_;exact⟨rfl,rfl⟩;refine q8 (zy ?_);obtain⟨B,a⟩:=zf a;refine zo (qz rfl rfl B) (zg (vi (e+1)) (z8 ?_));exact⟨dkt,f,jd,(o,e+1),Nat.lt_succ_self _,⟨rfl,trivial⟩,prm,a,trivial⟩
 refine jf ?_;exact⟨dkt,d,jd,(),trivial,prm,(Option.some.inj a).symm,trivial⟩;rintro aN ai aO C ⟨rfl,_⟩;replace b:=z3u b;refine zi (zh (vi 0) (z8 (qm ?_)));obtain rfl:=Option.some.inj b;refine qa (D:=[]) (J:=[]) (rs:=[.tmp 2]) (vs:=[(vi 0)]) (k.trans C) rfl rfl ⟨rfl,trivial⟩ ?_;exact⟨rfl,rfl⟩
theorem zv4:Enters prog 50:=enters_of func50 rfl (by kernel_rfl)
theorem q3w: ∀ w,∃ z,(zeroValue 102).run prog w= .ok z w∧z.cells=([.int .i64 0,.nilFunc,.int .i64 0,.nilFunc,.int .i64 0,.nilFunc]:List Value).toArray:=fun w=>⟨(.agg #[(vi 0),.nilFunc,(vi 0),.nilFunc,(vi 0),.nilFunc]),by kernel_rfl,rfl⟩
theorem q1q: ∀ w,(sizeOf 102).run prog w= .ok 6 w:=fun w=>by kernel_rfl
theorem q54: ∀ w,(isAgg 102).run prog w= .ok true w:=fun w=>by kernel_rfl
theorem zgr{N:Nat}{R:RH}{m:Mach}{b:Value}(d:VRep (je false false) R b m){r:Mach×Mach×Mach}(c:z8v N m=some r):CallP prog 57 #[b] R (fun v R'=> ∃ g h j,v= .agg #[(vi 9),.func (.func 77) #[] #[g],(vi 11),.func (.func 79) #[] #[h],(vi 12),.func (.func 81) #[] #[j]]∧PRep (je false false) R' g r.1∧PRep (je false false) R' h r.2.1∧PRep (je false false) R' j r.2.2):=by
 refine qd (args:=[b]) func57 rfl rfl fun A=>?_;rw [z8v] at c;refine zi (kg (T:=(je false false)) rfl rfl rfl d fun a n e o f=>?_);refine uq rfl q3w fun k=>?_
 refine qw (zo (iw (fs:=[]) (cs:=[a]) rfl rfl) (zo (gq (ps:=[(0,(vi 9)),(1,(.func (.func 77) #[] #[a]))]) (v:=(.agg #[(vi 9),(.func (.func 77) #[] #[a])])) rfl (fun w=>by kernel_rfl)) (zo (iw (fs:=[]) (cs:=[a]) rfl rfl) (zo (gq (ps:=[(0,(vi 11)),(1,(.func (.func 79) #[] #[a]))]) (v:=(.agg #[(vi 11),(.func (.func 79) #[] #[a])])) rfl (fun w=>by kernel_rfl)) (zo (iw (fs:=[]) (cs:=[a]) rfl rfl) (zo (gq (ps:=[(0,(vi 12)),(1,(.func (.func 81) #[] #[a]))]) (v:=(.agg #[(vi 12),(.func (.func 81) #[] #[a])])) rfl (fun w=>by kernel_rfl)) (zo (gq (ps:=[(0,(.agg #[(vi 9),(.func (.func 77) #[] #[a])])),(1,(.agg #[(vi 11),(.func (.func 79) #[] #[a])])),(2,(.agg #[(vi 12),(.func (.func 81) #[] #[a])]))]) (v:=(.agg #[(vi 9),(.func (.func 77) #[] #[a]),(vi 11),(.func (.func 79) #[] #[a]),(vi 12),(.func (.func 81) #[] #[a])])) rfl (fun w=>by kernel_rfl)) (jy (i:=0) (vs:=[(vi 9),(.func (.func 77) #[] #[a]),(vi 11),(.func (.func 79) #[] #[a]),(vi 12),(.func (.func 81) #[] #[a])]) q1q rfl rfl rfl rfl rfl rfl (qg rfl (qg rfl (qg rfl (qg rfl (qg rfl (qg rfl ko)))))) ?_))))))))
 refine z8 (qm ?_);obtain rfl:=Option.some.inj c
 refine qa (D:=[]) (J:=[box k [(vi 9),(.func (.func 77) #[] #[a]),(vi 11),(.func (.func 79) #[] #[a]),(vi 12),(.func (.func 81) #[] #[a])] 102]) (rs:=[.cell 2 102]) (vs:=[(.agg #[(vi 9),(.func (.func 77) #[] #[a]),(vi 11),(.func (.func 79) #[] #[a]),(vi 12),(.func (.func 81) #[] #[a])])]) e rfl rfl ⟨⟨_,rfl,fun w l=>z2y (i:=0) l rfl rfl q54 q1q rfl rfl⟩,trivial⟩ ?_
 exact⟨rfl,⟨a,a,a,rfl,f,f,f⟩⟩
theorem q8c:Enters prog 57:=enters_of func57 rfl (by kernel_rfl)
theorem zyy: ∀ w,∃ z,(zeroValue 101).run prog w= .ok z w∧z.cells=([.int .i64 0,.nilFunc]:List Value).toArray:=fun w=>⟨(.agg #[(vi 0),.nilFunc]),by kernel_rfl,rfl⟩
theorem zyj: ∀ w,(sizeOf 101).run prog w= .ok 2 w:=fun w=>by kernel_rfl
theorem znm:FieldOk prog 101 1 1:=by
 obtain⟨i,hi,a⟩: ∃ i,prog.info? 30=some i∧i.size=1:=kv (by kernel_rfl);exact ut underlying101 rfl rfl hi (by rw [a];rfl)
theorem q2i: ∀ w,(isAgg 30).run prog w= .ok false w:=fun w=>by kernel_rfl
theorem q8b: ∀ w,∃ z,(zeroValue 33).run prog w= .ok z w∧z.cells=([.slice none 0 0]:List Value).toArray:=fun w=>⟨vs0,by kernel_rfl,rfl⟩
theorem zhf{N:Nat}{R:RH}{m:Mach}{a:Value}(d:VRep (je false false) R a m){r:Mach}(b:z7i N m=some r):CallP prog 99 #[a] R (fun v R'=> ∃ f,v= .func (.func 106) #[] #[f]∧PRep (je false false) R' f r):=by
 refine qd (args:=[a]) func99 rfl rfl fun A=>?_;rw [z7i] at b;refine zi (kg (T:=(je false false)) rfl rfl rfl d fun c h e i g=>?_);refine zh .nilFunc (qw (zo (iw (fs:=[]) (cs:=[c]) rfl rfl) (zh (.func (.func 106) #[] #[c]) (z8 (qm ?_)))));obtain rfl:=Option.some.inj b
 refine qa (D:=[]) (J:=[]) (rs:=[.tmp 2]) (vs:=[(.func (.func 106) #[] #[c])]) e rfl rfl ⟨rfl,trivial⟩ ?_;exact⟨rfl,⟨c,rfl,g⟩⟩
theorem q6l:Enters prog 99:=enters_of func99 rfl (by kernel_rfl)
theorem zf3{N:Nat}{R:RH}{p0_:Mach}{e:Value}(r:PRep (je false false) R e p0_):zso prog 106 [e] R (fun(x:((Int×Int)×Edge)) vs R=>vs=[(z0s x.1),(z15 x.2)]) (fun σ B s=>z3s N p0_ σ B s):=by
 intro yv σ B I R1 O s0 Y C ab h0 c hy;refine z0z (args:=[yv,e]) func106 rfl rfl fun A=>?_;dsimp only at c;rw [z3s] at c;refine zi (jg rfl um ky rfl (r.mono C) fun v1 h2=>?_);refine qh rfl z0t rfl h2 fun v3 Z=>?_
 refine zo (qi rfl underlying22 rfl (qy Z)) (zg (vi 0) (z8 (zw (ja (γ:=Nat×σ×Int×(List Frag)) (rs [3,7,10,31]) (fun g=>[(10,(vi g.2.2.1))]) (fun g=>[]++(g.2.2.2++A)) (fun g R=>aj N σ B p0_ g.1 g.2.1 g.2.2.1=some Y∧I g.2.1 R g.2.2.2∧True) (fun g=>g.1) (N,s0,0,O) prm ⟨c,h0,trivial⟩ ?_))));clear c
 rintro⟨P,x6,d,k⟩ af R8 h ⟨c,l,_⟩;rcases P with _|P;exact qp c;replace c:aj N σ B p0_ (P+1) x6 d=some Y:=c;rw [aj] at c;refine zi (zo (j3 rfl rfl) (z8 (q9 (zu rfl c (fun c=>?_) (fun c=>?_)))));refine q8 ?_;obtain⟨t,b,c⟩:=zt c
 refine ql (γ:=σ×(List Frag)) (rs [3,7,12,30]) (fun g=>[]) (fun g=>[]++(g.2++A)) (fun g R=>t=Ex.go g.1∧I g.1 R g.2∧True) ?_ ?_;refine zw (zi (zg (vi d) ?_));obtain⟨E,b⟩:=zf b;refine jv (i:=d.toNat) rfl z8p rfl (qy (Z.mono h)) (ze rfl E.1) (zz E) fun ag Q=>?_
 refine qh rfl z7p rfl Q fun F G=>?_
 refine zh (vi d) (zh F (qw (zg F (zo (qi rfl underlying26 rfl (qy G)) (zg (vi 0) (z8 (zw (ja (γ:=Nat×σ×Int×(List Frag)) (rs [5,7,17,30]) (fun g=>[(17,(vi g.2.2.1))]) (fun g=>[]++(g.2.2.2++A)) (fun g R=>tq N σ B p0_ d g.1 g.2.1 g.2.2.1=some t∧I g.2.1 R g.2.2.2∧True) (fun g=>g.1) (N,x6,0,k) prm ⟨b,l,trivial⟩ ?_))))))))
 clear b;rintro⟨j,u,a,m⟩ ah ai f ⟨b,n,_⟩;rcases j with _|j;exact qp b;replace b:tq N σ B p0_ d (j+1) u a=some t:=b;rw [tq] at b;refine zi (zo (j3 rfl rfl) (z8 (q9 (zu rfl b (fun b=>?_) (fun b=>?_)))))
 refine q8 (q9 (zw (zi (zg (vi a) ?_))));obtain⟨H,b⟩:=zf b;refine jv (i:=a.toNat) rfl z8w rfl (qy (G.mono f)) (ze rfl H.1) (zz H) fun ak S=>?_;refine qh rfl zeb rfl S fun al T=>?_;obtain rfl:=sw.1 T;refine uq rfl zdd fun y=>?_
 refine zh (vi a) (jy (i:=0) (vs:=[(vi ((ix (ix p0_.rows d) a).to)),(vi ((ix (ix p0_.rows d) a).out))]) z97 rfl rfl rfl rfl rfl rfl (qg rfl (qg rfl ko)) ?_)
 refine qw (zg yv (zg (vi d) (zg (vi a) (zo (gq (ps:=[(0,(vi d)),(1,(vi a))]) (v:=(.agg #[(vi d),(vi a)])) rfl (fun w=>by kernel_rfl)) (zo (bg (i:=0) zvr z97 rfl rfl rfl rfl) ?_)))));obtain⟨z,U,b⟩:=zt b
 refine zhd (vs:=[(.agg #[(vi d),(vi a)]),(.agg #[(vi ((ix (ix p0_.rows d) a).to)),(vi ((ix (ix p0_.rows d) a).out))])]) (J:=[box y [(vi ((ix (ix p0_.rows d) a).to)),(vi ((ix (ix p0_.rows d) a).out))] 62]) (Oc:=m) (A:=A) rfl rfl rfl rfl (hy (((d,a):(Int×Int)),(⟨(ix (ix p0_.rows d) a).to,(ix (ix p0_.rows d) a).out⟩:Edge)) u z.1 z.2 _ _ [(.agg #[(vi d),(vi a)]),(.agg #[(vi ((ix (ix p0_.rows d) a).to)),(vi ((ix (ix p0_.rows d) a).out))])] (h.trans f) rfl n U) fun am o p q=>?_
 refine zo (l8 rfl) (z8 (zu rfl b (fun b=>?_) (fun b=>?_)));refine qm ?_;replace c:=z2q b c;obtain rfl:=Option.some.inj c;refine z0l (D:=[]) (J:=[box y [(vi ((ix (ix p0_.rows d) a).to)),(vi ((ix (ix p0_.rows d) a).out))] 62]) (O':=o) (rs:=[]) (vs:=[]) ((h.trans f).trans p) (List.Perm.refl _) rfl trivial ?_
 exact q;refine q8 (zy ?_);obtain⟨V,b⟩:=zf b;refine zo (qz rfl rfl V) (zg (vi (a+1)) (z8 ?_));exact⟨dkt,p,jd,(j,z.2,a+1,o),Nat.lt_succ_self _,⟨rfl,trivial⟩,⟨[box y [(vi ((ix (ix p0_.rows d) a).to)),(vi ((ix (ix p0_.rows d) a).out))] 62],(List.Perm.refl _)⟩,b,q,trivial⟩
 refine jf ?_;exact⟨dkt,f,jd,(u,m),trivial,prm,(Option.some.inj b).symm,n,trivial⟩;rintro⟨W,K⟩ an ao L ⟨rfl,M,_⟩;replace c:=z3u c;refine zy ?_;obtain⟨X,c⟩:=zf c;refine zo (qz rfl rfl X) (zg (vi (d+1)) (z8 ?_))
 exact⟨dkt,L,jd,(P,W,d+1,K),Nat.lt_succ_self _,⟨rfl,trivial⟩,prm,c,M,trivial⟩;refine jf ?_;show zca _ _ _ _ _ .ret _ [] _ _;obtain rfl:=Option.some.inj c;refine z0l (D:=[]) (J:=[]) (O':=k) (rs:=[]) (vs:=[]) h (List.Perm.refl _) rfl trivial ?_;exact l
theorem q4p:Enters prog 106:=enters_of func106 rfl (by kernel_rfl)
theorem q6k: ∀ w,∃ z,(zeroValue 73).run prog w= .ok z w∧z.cells=([.int .i64 0,.int .i64 0]:List Value).toArray:=fun w=>⟨(.agg #[(vi 0),(vi 0)]),by kernel_rfl,rfl⟩
theorem q2f: ∀ w,(sizeOf 73).run prog w= .ok 2 w:=fun w=>by kernel_rfl
theorem q1b: ∀ w,(isAgg 33).run prog w= .ok false w:=fun w=>by kernel_rfl
theorem q7l: ∀ w,(isAgg 73).run prog w= .ok true w:=fun w=>by kernel_rfl
theorem zyf:ZeroOk prog 73 kA2tInti64 (((0:Int),(0:Int)):(Int×Int)) 16:=by
 obtain⟨i,zv,hi,a,c,d,f⟩:=z4y (P:=prog) (e:=73) (zv:=(.agg #[(vi 0),(vi 0)])) (k:=2) (b:=16) (by kernel_rfl);exact⟨i,zv,hi,a,c,d,fun R=>by subst f;exact⟨_,_,rfl,rfl,rfl⟩⟩
theorem q2c: ∀ w,(sizeOf 33).run prog w= .ok 1 w:=fun w=>by kernel_rfl
theorem q3m:TyOk prog 73 kA2tInti64:=by
 obtain⟨i,hi,a⟩: ∃ i,prog.info? 73=some i∧i.size=2:=kv (by kernel_rfl);exact z3n underlying73 hi rfl a
theorem q2g:SlOk prog 33 73 kA2tInti64:=⟨underlying33,q3m⟩
theorem z8o{N:Nat}{R:RH}{s:(List (Int×Int))}{a:Value}(b:VRep (tSl false kA2tInti64) R a s){r:(List (Int×Int))}(c:z2f N s=some r):CallP prog 42 #[a] R (fun v R'=>VRep (tSl true kA2tInti64) R' v r):=by
 refine qd (args:=[a]) func42 rfl rfl fun A=>?_;rw [z2f] at c;refine zi (zh vs0 (qw (zg a (zg a (zo (qi rfl underlying33 rfl (qy b)) (zg a (zo (qi rfl underlying33 rfl (qy b)) ?_)))))));obtain⟨d,c⟩:=zf c
 refine zb4 (v:=a) (lo:=(0:Int).toNat) (hi:=(↑s.length:Int).toNat) (mx:=(↑s.length:Int).toNat) rfl q2g rfl (qy b) (.inl ⟨rfl,rfl⟩) (.inr ⟨_,congrArg some (ze rfl (za6 d))⟩) (.inr ⟨_,congrArg some (ze rfl (za6 d))⟩) (zcd d) (z5b d) (Nat.le_refl _) (Nat.le_trans (z5b d) (zo6 (qy b))) (X':=(cut s 0 (↑s.length:Int))) rfl fun f g e=>?_
 have h:VRep (tSl true kA2tInti64) R f (cut s 0 (↑s.length:Int)):=z1d g (e.trans (ziq d).symm);refine zh f (z8 (qm ?_));obtain rfl:=Option.some.inj c;refine qa (D:=[]) (J:=[]) (rs:=[.tmp 2]) (vs:=[f]) (RH.le.refl _) rfl rfl ⟨rfl,trivial⟩ ?_;exact⟨rfl,h⟩
theorem q5g:Enters prog 42:=enters_of func42 rfl (by kernel_rfl)
theorem zct{N:Nat}{R:RH}{m:Mach}{t:Value}(u:VRep (je false false) R t m){r:(List (Int×Int))}(d:z2h N m=some r):CallP prog 92 #[t] R (fun v R'=>VRep (tSl true kA2tInti64) R' v r):=by
 refine qd (args:=[t]) func92 rfl rfl fun A=>?_;rw [z2h] at d;refine zi (kg (T:=(je false false)) rfl rfl rfl u fun v1 R3 w h5 h2=>?_);refine zh vs0 (qw (uq rfl q8b fun E=>?_));refine z8 (q9 (zi (zo (jk fe rfl rfl h5 (u.mono w)) ?_)));obtain⟨y8,c9,d⟩:=zt d
 refine jb rfl q6l rfl (zhf (u.mono w) c9) fun aC aD F U=>?_;obtain⟨aE,rfl,V⟩:=U;refine z8 (zw (z1t ?_));obtain⟨W,Z,d⟩:=zt d
 refine zjr (Oc:=[emp,box E [vs0] 33]) (Or:=A) _ (fun(s:List (Int×Int)) R O=> ∃ (e:Value) (f:Frag),(∃ J,O.Perm (J++[box E [e] 33,f]))∧ORep kA2tInti64 R f e s∧True) (fun(s:List (Int×Int)) (c:Code) R O=>False) _ _ rfl q4p (zf3 (N:=N) V) (List.Perm.refl _) (by decide) (by rintro _ _ _ rfl;rfl) (by rintro s R2 R3 O2 n ⟨e,f,G,o,_⟩;exact⟨e,f,G,o.mono n,trivial⟩) (fun _ _ _ _ _ _ h=>h) (fun _ _ _ _ _ h=>h.elim) ⟨vs0,emp,⟨[],(pk 1 rfl (pk 0 rfl (List.Perm.refl _)))⟩,(ry (T:=kA2tInti64)),trivial⟩ Z ?_ ?_ ?_
 rintro a aa aF aG ar aH av aw ax H ⟨e,f,⟨_,G⟩,o,_⟩ p aI;have b:=p;clear p;(try dsimp only at b);refine zfw (zj8 G) ?_;obtain rfl:=H;refine zi (uq rfl q6k fun j=>?_);refine jy (i:=0) (vs:=[(vi a.1.1),(vi a.1.2)]) q2f rfl rfl rfl rfl rfl rfl (qg rfl (qg rfl ko)) ?_
 refine z8 (zy (uq rfl zdd fun k=>?_));refine jy (i:=0) (vs:=[(vi a.2.to),(vi a.2.out)]) z97 rfl rfl rfl rfl rfl rfl (qg rfl (qg rfl ko)) ?_;refine z8 ?_
 refine⟨rfl,rfl,(RH.le.refl _),[box k [(vi a.2.to),(vi a.2.out)] 62,box j [(vi a.1.1),(vi a.1.2)] 73,box E [e] 33,f],List.Perm.refl _,fun aJ=>?_⟩;refine zw (q9 ?_);obtain⟨x,ab,b⟩:=zt b
 refine og 3 [] [phX (.agg #[(vi a.2.to),(vi a.2.out)]),phX (z15 x),phX (.bool (decide (a.2.to=x.to∧a.2.out=x.out)))] mixed (by kernel_rfl) (di ⟨zk,zk,zk,trivial⟩) ⟨?_,?_,?_,trivial⟩ fun aK g=>?_;intro l aL n ha hd;exact za rfl rfl rfl (zq (bg (i:=0) zvr z97 (ha 5 rfl) rfl rfl rfl))
 intro l aN n ha hd;exact za rfl rfl rfl (wz (vs:=[]) q3e rfl (z8x  ab) (fun _ _ h=>h));rintro l aO n ha ⟨d0,d1,_⟩;exact za rfl rfl rfl (zq (zoa q4u (d0 rfl) (d1 rfl)));intro aR ad aS ae aT af;obtain rfl:=Eq.symm ad;obtain rfl:=Eq.symm ae;obtain rfl:=Eq.symm af;refine z8 (zu rfl b (fun b=>?_) (fun b=>?_))
 refine zy (zo (qf (i:=2) q1b rfl rfl rfl) (zo (bg (i:=1) q7l q2f rfl rfl rfl rfl) (oq (T:=kA2tInti64) (X:=([((a.1.1,a.1.2):(Int×Int))]:List (Int×Int))) (ps:=[(0,(.agg #[(vi a.1.1),(vi a.1.2)]))]) (css:=[[(vi a.1.1),(vi a.1.2)]]) rfl underlying33 zyf rfl rfl (kw ⟨⟨_,_,rfl,rfl,rfl⟩,trivial⟩) rfl rfl (by decide) fun ag aU y ah=>?_)))
 refine uj (i:=0) rfl ah fun ai q aj=>?_;have ak:VRep (tSl true kA2tInti64) ai ag ([((a.1.1,a.1.2):(Int×Int))]:List (Int×Int)):=(z1d aj y);obtain⟨I,b⟩:=zf b
 refine yz (i:=3) (X:=aa) (Y:=([((a.1.1,a.1.2):(Int×Int))]:List (Int×Int))) rfl underlying33 zyf rfl rfl rfl (o.mono (g.trans q)) (qy (Sub.v (B:=(tSl false kA2tInti64)) (ku Sub.refl (fun _=>rfl)) ak)) I.1 I.2 fun z K C=>?_
 refine jy (i:=2) (vs:=[z]) q2c rfl rfl (au C) rfl rfl rfl (qg (gy C) ko) ?_;refine z8 ?_;obtain⟨rfl,rfl⟩:=Prod.mk.inj (Option.some.inj b)
 exact⟨rfl,(g.trans q),[box k [(vi a.2.to),(vi a.2.out)] 62,box j [(vi a.1.1),(vi a.1.2)] 73,box E [z] 33,K],List.Perm.refl _,rfl,⟨z,K,⟨[box k [(vi a.2.to),(vi a.2.out)] 62,box j [(vi a.1.1),(vi a.1.2)] 73],(List.Perm.refl _)⟩,C,trivial⟩⟩;refine q8 ?_
 obtain⟨rfl,rfl⟩:=Prod.mk.inj (Option.some.inj b)
 exact⟨rfl,g,[box k [(vi a.2.to),(vi a.2.out)] 62,box j [(vi a.1.1),(vi a.1.2)] 73,box E [e] 33,f],List.Perm.refl _,rfl,⟨e,f,⟨[box k [(vi a.2.to),(vi a.2.out)] 62,box j [(vi a.1.1),(vi a.1.2)] 73],(List.Perm.refl _)⟩,(o.mono g),trivial⟩⟩
 rintro aV aW ay L ⟨M,aX,⟨_,G⟩,al,_⟩;refine⟨_,_,G,?_⟩;refine zi (zo (qf (i:=0) q1b rfl rfl rfl) (uj (i:=1) rfl al fun am P an=>?_));have ao:VRep (tSl false kA2tInti64) am M W:=(z5a an);obtain⟨aY,ap,d⟩:=zt d;refine jb rfl q5g rfl (z8o ao ap) fun Q aZ S aq=>?_
 refine zh Q (z8 (qm ?_));obtain rfl:=Option.some.inj d;refine qa (D:=[]) (J:=[box E [M] 33]) (rs:=[.tmp 2]) (vs:=[Q]) ((((w.trans F).trans L).trans P).trans S) rfl rfl ⟨rfl,trivial⟩ ?_;exact⟨rfl,aq⟩;exact fun _ _ _ _ _ h=>h.elim
theorem q7g:Enters prog 92:=enters_of func92 rfl (by kernel_rfl)
theorem zeh{N:Nat}{R:RH}{m:Mach}{e:Value}(d:VRep (je false false) R e m){r:Bool×Int}(a:z3h N m=some r):CallP prog 78 #[e] R (fun v R'=>v= .tuple #[(.bool r.1),(vi r.2)]):=by
 refine qd (args:=[e]) func78 rfl rfl fun A=>?_;rw [z3h] at a;refine zi (kg (T:=(je false false)) rfl rfl rfl d fun s t c k u=>?_);refine zh (.bool false) (zh (vi 0) (z8 (q9 (zi (zo (jk fe rfl rfl k (d.mono c)) ?_)))));obtain⟨f,l,a⟩:=zt a
 refine jb rfl zv4 rfl (z2a (d.mono c) l) fun w n b o=>?_;obtain rfl:=o;refine zh (vi f) (qw (zg (vi f) (zo (xe rfl rfl) (z8 (zu rfl a (fun a=>?_) (fun a=>?_))))));refine zi (zg (vi f) (zh (.bool false) (zh (vi f) (z8 (qm ?_)))));obtain rfl:=Option.some.inj a
 refine qa (D:=[]) (J:=[]) (rs:=[.tmp 2,.tmp 3]) (vs:=[(.bool false),(vi f)]) (c.trans b) rfl rfl ⟨rfl,rfl,trivial⟩ ?_;exact⟨rfl,rfl⟩;refine q8 (zi (zo (jk fe rfl rfl (k.mono b) (d.mono (c.trans b))) ?_));obtain⟨g,i,a⟩:=zt a
 refine jb rfl q7g rfl (zct (d.mono (c.trans b)) i) fun p q h j=>?_;refine zo (qi rfl underlying33 rfl (qy j)) (zo (mg rfl rfl) (zh (.bool (decide ((↑g.length:Int)=0))) (zh (vi 0) (z8 (qm ?_)))));obtain rfl:=Option.some.inj a
 refine qa (D:=[]) (J:=[]) (rs:=[.tmp 2,.tmp 3]) (vs:=[(.bool (decide ((↑g.length:Int)=0))),(vi 0)]) ((c.trans b).trans h) rfl rfl ⟨rfl,rfl,trivial⟩ ?_;exact⟨rfl,rfl⟩
theorem q6a:Enters prog 78:=enters_of func78 rfl (by kernel_rfl)
theorem zei{N:Nat}{R:RH}{p0_:Mach}{a:Value}(c:PRep (je false false) R a p0_){r:Bool}(b:z2z N p0_=some r):CallP prog 77 #[a] R (fun v R'=>v=(.bool r)):=by
 refine qd (args:=[a]) func77 rfl rfl fun A=>?_;rw [z2z] at b;refine zi (zh (.bool false) (qw (qh rfl fe rfl c fun i f=>?_)));obtain⟨d,g,b⟩:=zt b;refine jb rfl q6a rfl (zeh f g) fun j k e h=>?_;obtain rfl:=h
 refine zg (.tuple #[(.bool d.1),(vi d.2)]) (zo (jq rfl rfl) (zo (jq rfl rfl) (zh (.bool d.1) (zh (vi d.2) (qw (zg (.bool d.1) (zh (.bool d.1) (z8 (qm ?_)))))))));obtain rfl:=Option.some.inj b;refine qa (D:=[]) (J:=[]) (rs:=[.tmp 1]) (vs:=[(.bool d.1)]) e rfl rfl ⟨rfl,trivial⟩ ?_;exact⟨rfl,rfl⟩
theorem q6y:Enters prog 77:=enters_of func77 rfl (by kernel_rfl)
theorem znc:FieldOk prog 101 0 0:=by
 obtain⟨i,hi,a⟩: ∃ i,prog.info? 27=some i∧i.size=1:=kv (by kernel_rfl);exact ut underlying101 rfl rfl hi (by rw [a];rfl)
theorem q38: ∀ w,(isAgg 27).run prog w= .ok false w:=fun w=>by kernel_rfl
theorem q3q: ∀ w,∃ z,(zeroValue 78).run prog w= .ok z w∧z.cells=([.slice none 0 0]:List Value).toArray:=fun w=>⟨vs0,by kernel_rfl,rfl⟩
theorem q4b: ∀ w,(sizeOf 78).run prog w= .ok 1 w:=fun w=>by kernel_rfl
theorem q67: ∀ w,∃ z,(zeroValue 88).run prog w= .ok z w∧z.cells=([.nilFunc]:List Value).toArray:=fun w=>⟨.nilFunc,by kernel_rfl,rfl⟩
theorem q5w: ∀ w,(sizeOf 88).run prog w= .ok 1 w:=fun w=>by kernel_rfl
theorem q51: ∀ w,(isAgg 88).run prog w= .ok false w:=fun w=>by kernel_rfl
theorem zgf: ∀ w,(isAgg 78).run prog w= .ok false w:=fun w=>by kernel_rfl
theorem q57:Enters prog 93:=enters_of func93 rfl (by kernel_rfl)
theorem z9h{N:Nat}(F:Nat): ∀ {R:RH} {s:Int} {a:Nat} {p0_:List Bool} {e:Value} {fAb:Frag} (f:ORep jh R fAb e p0_) {p1_:Mach} {d:Value} (k:PRep (je false false) R d p1_) {b:Nat} {r:List Bool} (c:p9 N F s p0_ p1_=some r),CallG prog 93 #[(vi s),(.pointer (some ⟨a,0,none⟩)),d,(.pointer (some ⟨b,0,none⟩))] R [box a [e] 78,fAb,box b [.func (.func 93) #[] #[(.pointer (some ⟨a,0,none⟩)),d,(.pointer (some ⟨b,0,none⟩))]] 88] (fun v R' O'=> ∃ l m,v= .tuple #[]∧O'=[box a [l] 78,m,box b [.func (.func 93) #[] #[(.pointer (some ⟨a,0,none⟩)),d,(.pointer (some ⟨b,0,none⟩))]] 88]∧ORep jh R' m l r):=by
  induction F with
  |zero=>intros;rename_i c;exact qp c
  |succ F ih=>
    intro R s a p0_ e fAb f p1_ d k b r c
    refine z0z (args:=[(vi s),(.pointer (some ⟨a,0,none⟩)),d,(.pointer (some ⟨b,0,none⟩))]) func93 rfl rfl fun A=>?_
    rw [p9] at c
    refine q9 ?_
    refine q9 ?_
    refine zy ?_
    refine jo (v:=(vi s)) rfl (zb rfl) ?_
    refine jo rfl (mg rfl rfl) ?_
    refine jo (v:=(.bool (decide (s=(-1))))) rfl (zb rfl) ?_
    refine j6 rfl rfl rfl rfl (fun o=>j4 (v:=e) (qf (i:=0) zgf rfl rfl rfl)) fun v7 h8=>?_
    refine j6 rfl rfl rfl rfl (fun o=>j4 (v:=(vi s)) (zb rfl)) fun v9 G=>?_
    obtain⟨q,c⟩:=zf c
    refine j6 rfl rfl rfl rfl (fun o=>z2x (i:=s.toNat) z3p (h8.1 (zn rfl o)) f (ze (G.1 (zn rfl o)) (q (zn rfl o)).1) (zz (q (zn rfl o)))) fun ae H=>?_
    refine j6 rfl rfl rfl rfl (fun o=>j4 (z7j (zar (i:=s.toNat) (j:=1) ty4 f rfl rfl (H.1 (zn rfl o)) (zz (q (zn rfl o)))))) fun af I=>?_
    refine jo rfl (z0e rfl rfl (fun hb=>(I.1 (zn rfl hb)))) ?_
    refine z8 ?_
    refine zu rfl c (fun c=>?_) (fun c=>?_)
    · refine qm ?_
      obtain rfl:=Option.some.inj c
      refine z0l (D:=[]) (J:=[]) (O':=[box a [e] 78,fAb,box b [(.func (.func 93) #[] #[(.pointer (some ⟨a,0,none⟩)),d,(.pointer (some ⟨b,0,none⟩))])] 88]) (rs:=[]) (vs:=[]) (RH.le.refl _) ((pk 0 rfl (pk 0 rfl (pk 0 rfl (List.Perm.refl _))))) rfl trivial ?_
      exact⟨e,fAb,rfl,rfl,f⟩
    · refine q8 ?_
      refine q9 ?_
      refine zy ?_
      refine zo (qf (i:=0) zgf rfl rfl rfl) ?_
      refine zg (vi s) ?_
      obtain⟨t,c⟩:=zf c
      refine uz (i:=s.toNat) rfl z3p rfl f (ze rfl t.1) (zz t) fun ah K=>?_
      refine o8 (i:=s.toNat) (j:=1) ty4 f rfl rfl K (zz t) rfl (u7.2 rfl) fun L M=>?_
      refine z8 ?_
      refine q9 ?_
      refine zy ?_
      refine jg rfl um ky rfl k fun ai O=>?_
      refine qh rfl z0t rfl O fun aj P=>?_
      refine zg (vi s) ?_
      obtain⟨x,c⟩:=zf c
      refine jv (i:=s.toNat) rfl z8p rfl (qy P) (ze rfl x.1) (zz x) fun ak Q=>?_
      refine qh rfl z7p rfl Q fun al y=>?_
      refine zo (qi rfl underlying26 rfl (qy y)) ?_
      refine zg (vi 0) ?_
      refine z8 ?_
      refine zw ?_
      refine ja (γ:=Nat×Int×(List Bool)×Value×Frag) (rs [6,7,24,33]) (fun g=>[(24,(vi g.2.1))]) (fun g=>[box b [(.func (.func 93) #[] #[(.pointer (some ⟨a,0,none⟩)),d,(.pointer (some ⟨b,0,none⟩))])] 88,box a [g.2.2.2.1] 78,g.2.2.2.2]++A) (fun g R=>dn N (p9 N F) s p1_ g.1 g.2.1 g.2.2.1=some r∧ORep jh R g.2.2.2.2 g.2.2.2.1 g.2.2.1∧True) (fun g=>g.1) (N,0,(up p0_ s true),e,L) ⟨[],(pk 2 rfl (pk 0 rfl (pk 0 rfl (List.Perm.refl _))))⟩ ⟨c,M,trivial⟩ ?_
      clear c
      rintro⟨p,h,S,u,w⟩ am an n ⟨c,z,_⟩
      rcases p with _|p
      · exact qp c
      replace c:dn N (p9 N F) s p1_ (p+1) h S=some r:=c;rw [dn] at c
      refine q9 ?_
      refine zy ?_
      refine zo (j3 rfl rfl) ?_
      refine z8 ?_
      refine q9 ?_
      refine zu rfl c (fun c=>?_) (fun c=>?_)
      · refine q8 ?_
        refine q9 ?_
        refine zw ?_
        refine q9 ?_
        refine zy ?_
        obtain⟨B,c⟩:=zf c
        refine jv (i:=h.toNat) rfl z8w rfl (qy (y.mono n)) (ze rfl B.1) (zz B) fun ao T=>?_
        refine qh rfl zeb rfl T fun ap U=>?_
        obtain rfl:=sw.1 U
        refine uq rfl zdd fun C=>?_
        refine jy (i:=0) (vs:=[(vi ((ix (ix p1_.rows s) h).to)),(vi ((ix (ix p1_.rows s) h).out))]) z97 rfl rfl rfl rfl rfl rfl (qg rfl (qg rfl ko)) ?_
        refine z8 ?_
        refine zy ?_
        refine zo (qf (i:=1) q51 rfl rfl rfl) ?_
        refine zo (qb ic rfl) ?_
        refine zo (qf (i:=0) ag3 rfl rfl rfl) ?_
        obtain⟨V,W,c⟩:=zt c
        refine z6a (Oc:=[box a [u] 78,w,box b [(.func (.func 93) #[] #[(.pointer (some ⟨a,0,none⟩)),d,(.pointer (some ⟨b,0,none⟩))])] 88]) (Or:=[box C [(vi ((ix (ix p1_.rows s) h).to)),(vi ((ix (ix p1_.rows s) h).out))] 62]++A) (cs:=[(.pointer (some ⟨a,0,none⟩)),d,(.pointer (some ⟨b,0,none⟩))]) (vs:=[(vi ((ix (ix p1_.rows s) h).to))]) rfl q57 rfl rfl ((pk 2 rfl (pk 2 rfl (pk 1 rfl (pk 0 rfl (List.Perm.refl _)))))) (ih z (k.mono n) W) fun aq ar ac E X=>?_
        obtain⟨Y,Z,rfl,rfl,aa⟩:=X
        refine z8 ?_
        refine zy ?_
        obtain⟨ab,c⟩:=zf c
        refine zo (qz rfl rfl ab) ?_
        refine zg (vi (h+1)) ?_
        refine z8 ?_
        exact⟨dkt,E,jd,(p,h+1,V,Y,Z),Nat.lt_succ_self _,⟨rfl,trivial⟩,⟨[box C [(vi ((ix (ix p1_.rows s) h).to)),(vi ((ix (ix p1_.rows s) h).out))] 62],(pk 3 rfl (pk 2 rfl (pk 0 rfl (pk 0 rfl (List.Perm.refl _)))))⟩,c,aa,trivial⟩
      · refine jf ?_
        show zca _ _ _ _ _ .ret _ [] _ _
        obtain rfl:=Option.some.inj c
        refine z0l (D:=[]) (J:=[]) (O':=[box a [u] 78,w,box b [(.func (.func 93) #[] #[(.pointer (some ⟨a,0,none⟩)),d,(.pointer (some ⟨b,0,none⟩))])] 88]) (rs:=[]) (vs:=[]) n ((pk 1 rfl (pk 1 rfl (pk 0 rfl (List.Perm.refl _))))) rfl trivial ?_
        exact⟨u,w,rfl,rfl,z⟩
theorem zc2{N:Nat}{R:RH}{s:Int}{a:Nat}{p0_:List Bool}{d:Value}{fAb:Frag}(g:ORep jh R fAb d p0_){p1_:Mach}{c:Value}(h:PRep (je false false) R c p1_){b:Nat}{r:List Bool}(i:p9 N N s p0_ p1_=some r):CallG prog 93 #[(vi s),(.pointer (some ⟨a,0,none⟩)),c,(.pointer (some ⟨b,0,none⟩))] R [box a [d] 78,fAb,box b [.func (.func 93) #[] #[(.pointer (some ⟨a,0,none⟩)),c,(.pointer (some ⟨b,0,none⟩))]] 88] (fun v R' O'=> ∃ e f,v= .tuple #[]∧O'=[box a [e] 78,f,box b [.func (.func 93) #[] #[(.pointer (some ⟨a,0,none⟩)),c,(.pointer (some ⟨b,0,none⟩))]] 88]∧ORep jh R' f e r):=z9h N g h i
theorem zeg{N:Nat}{R:RH}{s:(List Bool)}{c:Value}(h:VRep (tSl false jh) R c s){f:Bool}{r:Int}(b:z3f N s f=some r):CallP prog 100 #[c,(.bool f)] R (fun v R'=>v=(vi r)):=by
 refine qd (args:=[c,(.bool f)]) func100 rfl rfl fun A=>?_;rw [z3f] at b;refine zi (zh (vi 0) (z8 ?_));obtain⟨l,a,b⟩:=zt b;refine ql (γ:=Unit) (rs [4,19]) (fun g=>[]) (fun g=>[]++A) (fun g R=>l=Ex.go g∧True) ?_ ?_
 refine zi (zg c (zo (qi rfl underlying78 rfl (qy h)) (zg (vi 0) (z8 (zw (ja (γ:=Nat×Int) (rs [4,6,8,19]) (fun g=>[(8,(vi g.2))]) (fun g=>[]++A) (fun g R=>ng N s f g.1 g.2=some l∧True) (fun g=>g.1) (N,0) prm ⟨a,trivial⟩ ?_))))));clear a;rintro⟨k,d⟩ q x e ⟨a,_⟩;rcases k with _|k
 exact qp a;replace a:ng N s f (k+1) d=some l:=a;rw [ng] at a;refine zi (zo (j3 rfl rfl) (z8 (q9 (zu rfl a (fun a=>?_) (fun a=>?_)))));refine q8 (q9 (zw (zi (zg (vi d) (zh (vi d) (qw (zg (.bool f) (zg c (zg (vi d) ?_)))))))))
 obtain⟨j,a⟩:=zf a;refine jv (i:=d.toNat) rfl z3p rfl (qy (h.mono e)) (ze rfl j.1) (zz j) fun t m=>?_;refine qh rfl ty4 rfl m fun u n=>?_;obtain rfl:=u7.1 n;refine zo (zz4 underlying4 rfl rfl) (z8 (zu rfl a (fun a=>?_) (fun a=>?_)))
 refine zi (zg (vi d) (zh (vi d) (z8 (qm ?_))));replace b:=z2q a b;obtain rfl:=Option.some.inj b;refine qa (D:=[]) (J:=[]) (rs:=[.tmp 4]) (vs:=[(vi d)]) e rfl rfl ⟨rfl,trivial⟩ ?_;exact⟨rfl,rfl⟩;refine q8 (zy ?_);obtain⟨o,a⟩:=zf a
 refine zo (qz rfl rfl o) (zg (vi (d+1)) (z8 ?_));exact⟨dkt,(RH.le.refl _),jd,(k,d+1),Nat.lt_succ_self _,⟨rfl,trivial⟩,prm,a,trivial⟩;refine jf ?_;exact⟨dkt,e,jd,(),trivial,prm,(Option.some.inj a).symm,trivial⟩;rintro y w z p ⟨rfl,_⟩;replace b:=z3u b;refine zi (zh (vi (-1)) (z8 (qm ?_)))
 obtain rfl:=Option.some.inj b;refine qa (D:=[]) (J:=[]) (rs:=[.tmp 4]) (vs:=[(vi (-1))]) p rfl rfl ⟨rfl,trivial⟩ ?_;exact⟨rfl,rfl⟩
theorem q4s:Enters prog 100:=enters_of func100 rfl (by kernel_rfl)
theorem zbr{N:Nat}{R:RH}{s:(List Bool)}{a:Value}(d:VRep (tSl false jh) R a s){c:Bool}{r:Bool}(b:z14 N s c=some r):CallP prog 94 #[a,(.bool c)] R (fun v R'=>v=(.bool r)):=by
 refine qd (args:=[a,(.bool c)]) func94 rfl rfl fun A=>?_;rw [z14] at b;refine zi (zh (.bool false) (qw (zg a (zg (.bool c) ?_))));obtain⟨f,g,b⟩:=zt b;refine jb rfl q4s rfl (zeg d g) fun i j e h=>?_;obtain rfl:=h
 refine zo (z18 rfl rfl) (zh (.bool (decide (0≤f))) (z8 (qm ?_)));obtain rfl:=Option.some.inj b;refine qa (D:=[]) (J:=[]) (rs:=[.tmp 4]) (vs:=[(.bool (decide (0≤f)))]) e rfl rfl ⟨rfl,trivial⟩ ?_;exact⟨rfl,rfl⟩
theorem q6h:Enters prog 94:=enters_of func94 rfl (by kernel_rfl)
theorem z8h{N:Nat}{R:RH}{m:Mach}{h:Value}(j:VRep (je false false) R h m){r:Bool×Int}(a:z0p N m=some r):CallP prog 80 #[h] R (fun v R'=>v= .tuple #[(.bool r.1),(vi r.2)]):=by
 refine qd (args:=[h]) func80 rfl rfl fun A=>?_;rw [z0p] at a;refine zi (kg (T:=(je false false)) rfl rfl rfl j fun o Z f O L=>?_);refine zh (.bool false) (zh (vi 0) (z8 (q9 (zi (zo (jk fe rfl rfl O (j.mono f)) ?_)))));obtain⟨p,P,a⟩:=zt a
 refine jb rfl zv4 rfl (z2a (j.mono f) P) fun v8 Q e S=>?_;obtain rfl:=S;refine zh (vi p) (qw (zg (vi p) (zo (xe rfl rfl) (z8 (zu rfl a (fun a=>?_) (fun a=>?_))))));refine zi (zg (vi p) (zh (.bool false) (zh (vi p) (z8 (qm ?_)))));obtain rfl:=Option.some.inj a
 refine qa (D:=[]) (J:=[]) (rs:=[.tmp 2,.tmp 3]) (vs:=[(.bool false),(vi p)]) (f.trans e) rfl rfl ⟨rfl,rfl,trivial⟩ ?_;exact⟨rfl,rfl⟩;refine q8 (zi (jg rfl um ky rfl (L.mono e) fun U w=>?_));refine qh rfl z0t rfl w fun V x=>?_;refine zo (qi rfl underlying22 rfl (qy x)) ?_
 obtain⟨g,a⟩:=zf a;refine z2t (T:=jh) (m:=(↑m.rows.length:Int).toNat) (c:=(↑m.rows.length:Int).toNat) rfl underlying78 zo4 (ze rfl g.1) (ze rfl g.1) (Nat.le_refl _) (z2u g) (z2v g) fun q y z k=>?_;refine uq rfl q3q fun b=>?_
 refine jy (i:=0) (vs:=[q]) q4b rfl rfl (au k) rfl rfl rfl (qg (gy k) ko) ?_;refine qw (uq rfl q67 fun d=>?_)
 refine qw (zo (iw (fs:=[]) (cs:=[(.pointer (some ⟨b,0,none⟩)),o,(.pointer (some ⟨d,0,none⟩))]) rfl rfl) (jy (i:=0) (vs:=[(.func (.func 93) #[] #[(.pointer (some ⟨b,0,none⟩)),o,(.pointer (some ⟨d,0,none⟩))])]) q5w rfl rfl rfl rfl rfl rfl (qg rfl ko) ?_));refine qw (zo (qf (i:=0) q51 rfl rfl rfl) ?_)
 obtain⟨B,C,a⟩:=zt a
 refine z6a (Oc:=[box b [q] 78,y,box d [(.func (.func 93) #[] #[(.pointer (some ⟨b,0,none⟩)),o,(.pointer (some ⟨d,0,none⟩))])] 88]) (Or:=[]++A) (cs:=[(.pointer (some ⟨b,0,none⟩)),o,(.pointer (some ⟨d,0,none⟩))]) (vs:=[(vi 0)]) rfl q57 rfl rfl ((pk 1 rfl (pk 1 rfl (pk 0 rfl (List.Perm.refl _))))) (zc2 k (L.mono e) C) fun W X M s E=>?_
 obtain⟨l,F,rfl,rfl,G⟩:=E;refine qw (zo (qf (i:=0) zgf rfl rfl rfl) ?_);obtain⟨n,H,a⟩:=zt a;refine zt5 (cs:=[]) (vs:=[l,(.bool false)]) (φ:=fun v=>v=(.bool n)) rfl q6h rfl rfl (fun I t u=>zbr (z5a ((zy8 1 rfl G t u):VRep (gz jh) I l B)) H) fun Y K=>?_;obtain rfl:=K
 refine zo (l8 rfl) (zh (.bool (!n)) (zh (vi 0) (z8 (qm ?_))));obtain rfl:=Option.some.inj a
 refine qa (D:=[]) (J:=[box b [l] 78,F,box d [(.func (.func 93) #[] #[(.pointer (some ⟨b,0,none⟩)),o,(.pointer (some ⟨d,0,none⟩))])] 88]) (rs:=[.tmp 2,.tmp 3]) (vs:=[(.bool (!n)),(vi 0)]) ((f.trans e).trans s) rfl rfl ⟨rfl,rfl,trivial⟩ ?_;exact⟨rfl,rfl⟩
theorem q5t:Enters prog 80:=enters_of func80 rfl (by kernel_rfl)
theorem zec{N:Nat}{R:RH}{p0_:Mach}{a:Value}(c:PRep (je false false) R a p0_){r:Bool}(b:z3m N p0_=some r):CallP prog 79 #[a] R (fun v R'=>v=(.bool r)):=by
 refine qd (args:=[a]) func79 rfl rfl fun A=>?_;rw [z3m] at b;refine zi (zh (.bool false) (qw (qh rfl fe rfl c fun i f=>?_)));obtain⟨d,g,b⟩:=zt b;refine jb rfl q5t rfl (z8h f g) fun j k e h=>?_;obtain rfl:=h
 refine zg (.tuple #[(.bool d.1),(vi d.2)]) (zo (jq rfl rfl) (zo (jq rfl rfl) (zh (.bool d.1) (zh (vi d.2) (qw (zg (.bool d.1) (zh (.bool d.1) (z8 (qm ?_)))))))));obtain rfl:=Option.some.inj b;refine qa (D:=[]) (J:=[]) (rs:=[.tmp 1]) (vs:=[(.bool d.1)]) e rfl rfl ⟨rfl,trivial⟩ ?_;exact⟨rfl,rfl⟩
theorem q6b:Enters prog 79:=enters_of func79 rfl (by kernel_rfl)
theorem q0h: ∀ w,∃ z,(zeroValue 25).run prog w= .ok z w∧z.cells=([.slice none 0 0]:List Value).toArray:=fun w=>⟨vs0,by kernel_rfl,rfl⟩
theorem za3: ∀ w,∃ z,(zeroValue 3).run prog w= .ok z w∧z.cells=([.int .i64 0]:List Value).toArray:=fun w=>⟨(vi 0),by kernel_rfl,rfl⟩
theorem zh6: ∀ w,(sizeOf 25).run prog w= .ok 1 w:=fun w=>by kernel_rfl
theorem sz3: ∀ w,(sizeOf 3).run prog w= .ok 1 w:=fun w=>by kernel_rfl
theorem zh1{N:Nat}{R:RH}{m:Mach}{a:Value}(d:VRep (je false false) R a m){r:Mach}(b:z6w N m=some r):CallP prog 95 #[a] R (fun v R'=> ∃ f,v= .func (.func 101) #[] #[f]∧PRep (je false false) R' f r):=by
 refine qd (args:=[a]) func95 rfl rfl fun A=>?_;rw [z6w] at b;refine zi (kg (T:=(je false false)) rfl rfl rfl d fun c h e i g=>?_);refine zh .nilFunc (qw (zo (iw (fs:=[]) (cs:=[c]) rfl rfl) (zh (.func (.func 101) #[] #[c]) (z8 (qm ?_)))));obtain rfl:=Option.some.inj b
 refine qa (D:=[]) (J:=[]) (rs:=[.tmp 2]) (vs:=[(.func (.func 101) #[] #[c])]) e rfl rfl ⟨rfl,trivial⟩ ?_;exact⟨rfl,⟨c,rfl,g⟩⟩
theorem q6q:Enters prog 95:=enters_of func95 rfl (by kernel_rfl)
theorem q1w: ∀ w,∃ z,(zeroValue 152).run prog w= .ok z w∧z.cells=((vg (z9y 16 (List.replicate 16 (((0:Int),(0:Int)):(Int×Int)))))).toArray:=fun w=>⟨(.agg #[(vi 0),(vi 0),(vi 0),(vi 0),(vi 0),(vi 0),(vi 0),(vi 0),(vi 0),(vi 0),(vi 0),(vi 0),(vi 0),(vi 0),(vi 0),(vi 0),(vi 0),(vi 0),(vi 0),(vi 0),(vi 0),(vi 0),(vi 0),(vi 0),(vi 0),(vi 0),(vi 0),(vi 0),(vi 0),(vi 0),(vi 0),(vi 0)]),by kernel_rfl,by kernel_rfl⟩
theorem q1p:ArrOk prog 152 16 2:=zkm (e:=73) underlying152 (fun w=>by kernel_rfl)
theorem q7q:ArrOk prog 73 2 1:=zkm (e:=3) underlying73 (fun w=>by kernel_rfl)
theorem q1l: ∀ w,(isAgg 152).run prog w= .ok true w:=fun w=>by kernel_rfl
theorem zwz: ∀ w,(sizeOf 152).run prog w= .ok 32 w:=fun w=>by kernel_rfl
theorem zjm{N:Nat}{R:RH}{m:Mach}{n:Value}(O:VRep (je false false) R n m){p:(List Int)}{h:Value}(P:VRep (tSl false (zx .i64)) R h p){s:Int}{r:(Arr 16 (Int×Int))}(k:z7d N m p s=some r):CallP prog 107 #[n,h,(vi s)] R (fun v R'=>v=(z5s r)):=by
 refine qd (args:=[n,h,(vi s)]) func107 rfl rfl fun A=>?_;rw [z7d] at k;refine zi (kg (T:=(je false false)) rfl rfl rfl O fun v1 R3 C h5 h2=>?_);refine uq rfl q1w fun M=>?_;refine qw (uq rfl q1w fun B=>?_);refine z8 ?_;obtain⟨e,b,k⟩:=zt k
 refine ql (γ:=((Arr 16 (Int×Int)))) (rs [8,38]) (fun g=>[]) (fun g=>[box M (vg (z9y 16 (List.replicate 16 (((0:Int),(0:Int)):(Int×Int))))) 152,box B (vg g) 152]++A) (fun g R=>e=g∧True) ?_ ?_;refine zi (jg rfl um ky rfl h2 fun ab Q=>?_);refine qh rfl z0t rfl Q fun ac S=>?_
 refine zg (vi s) ?_;obtain⟨E,b⟩:=zf b;refine jv (i:=s.toNat) rfl z8p rfl (qy S) (ze rfl E.1) (zz E) fun ad U=>?_;refine qh rfl z7p rfl U fun ae F=>?_
 refine zo (qi rfl underlying26 rfl (qy F)) (zg (vi 0) (z8 (zw (ja (γ:=Nat×Int×((Arr 16 (Int×Int)))) (rs [8,10,16,38]) (fun g=>[(16,(vi g.2.1))]) (fun g=>[box M (vg (z9y 16 (List.replicate 16 (((0:Int),(0:Int)):(Int×Int))))) 152,box B (vg g.2.2) 152]++A) (fun g R=>oz N m p s g.1 g.2.1 g.2.2=some e∧True) (fun g=>g.1) (N,0,(z9y 16 (List.replicate 16 (((0:Int),(0:Int)):(Int×Int))))) ⟨[],(pk 1 rfl (pk 0 rfl (List.Perm.refl _)))⟩ ⟨b,trivial⟩ ?_))))
 clear b;rintro⟨l,a,d⟩ af ag f ⟨b,_⟩;rcases l with _|l;exact qp b;replace b:oz N m p s (l+1) a d=some e:=b;rw [oz] at b;refine zi (zo (j3 rfl rfl) (z8 (q9 (zu rfl b (fun b=>?_) (fun b=>?_)))));refine q8 ?_;obtain⟨t,c,b⟩:=zt b
 refine ql (γ:=((Arr 16 (Int×Int)))) (rs [8,10,18,37]) (fun g=>[]) (fun g=>[box M (vg (z9y 16 (List.replicate 16 (((0:Int),(0:Int)):(Int×Int))))) 152,box B (vg g) 152]++A) (fun g R=>t=g∧True) ?_ ?_;refine zw (zi (zg (vi a) ?_));obtain⟨G,c⟩:=zf c
 refine jv (i:=a.toNat) rfl z8w rfl (qy (F.mono f)) (ze rfl G.1) (zz G) fun ah V=>?_;refine qh rfl zeb rfl V fun ai W=>?_;obtain rfl:=sw.1 W;refine uq rfl zdd fun u=>?_
 refine zh (vi a) (jy (i:=0) (vs:=[(vi ((ix (ix m.rows s) a).to)),(vi ((ix (ix m.rows s) a).out))]) z97 rfl rfl rfl rfl rfl rfl (qg rfl (qg rfl ko)) ?_)
 refine qw (zg (vi a) (zo (qb z9i rfl) (zo (qf (i:=0) ag3 rfl rfl rfl) (zo (gq (ps:=[(0,(vi ((ix (ix m.rows s) a).out))),(1,(vi (-1)))]) (v:=(.agg #[(vi ((ix (ix m.rows s) a).out)),(vi (-1))])) rfl (fun w=>by kernel_rfl)) ?_))));obtain⟨x,c⟩:=zf c
 refine zo (z6r (i:=a.toNat) q1p rfl (ze rfl x.1) (Nat.lt_of_lt_of_eq (zz x) d.2)) (zm9 (sz:=2) (cl:=z0q) (z:=(((ix (ix m.rows s) a).out,(-1)):(Int×Int))) (vs:=[(vi ((ix (ix m.rows s) a).out)),(vi (-1))]) (q:=a) (i:=a.toNat) (o:=0) (j:=2) (X:=d) co_A2tInti64.len q2f rfl rfl (by omega) rfl (Nat.lt_of_lt_of_eq (zz x) d.2) rfl rfl rfl (qg rfl (qg rfl ko)) rfl rfl ?_)
 refine qw (zo (qb ic rfl) (zo (qf (i:=0) ag3 rfl rfl rfl) (zo (xe rfl rfl) (z8 (zu rfl c (fun c=>?_) (fun c=>?_))))));refine z3e 8 mixed (by kernel_rfl) (by kernel_rfl) ?_;refine u6 (v:=(vi a)) (zb rfl) ?_;refine u6 (v:=h) (zb rfl) ?_
 refine u6 (v:=(.pointer (some ⟨u,0,none⟩))) (qb ic rfl) ?_;refine u6 (v:=(vi ((ix (ix m.rows s) a).to))) (qf (i:=0) ag3 rfl rfl rfl) ?_;obtain⟨H,c⟩:=zf c;refine z1u (yx (i:=((ix (ix m.rows s) a).to).toNat) tu rfl (qy (P.mono (C.trans f))) (ze rfl H.1) (zz H)) fun aj Y=>?_
 refine u6 (ol (jr ty3 rfl Y)) ?_;obtain⟨y,c⟩:=zf c;refine u6 (v:=(.pointer (some ⟨B,0+a.toNat*2,none⟩))) (z6r (i:=a.toNat) q1p rfl (ze rfl y.1) (Nat.lt_of_lt_of_eq (zz y) (z4f d a (((ix (ix m.rows s) a).out,(-1)):(Int×Int))).2)) ?_
 refine u6 (v:=(.pointer (some ⟨B,0+a.toNat*2+1*1,none⟩))) (z6r (i:=1) q7q rfl rfl (by decide)) ?_;intro ak I
 refine zm9 (sz:=2) (cl:=z0q) (z:=(((ix (z4f d a (((ix (ix m.rows s) a).out,(-1)):(Int×Int))).1 a).1,(ix p ((ix (ix m.rows s) a).to))):(Int×Int))) (vs:=[(vi (ix p ((ix (ix m.rows s) a).to)))]) (q:=a) (i:=a.toNat) (o:=1) (j:=2) (X:=(z4f d a (((ix (ix m.rows s) a).out,(-1)):(Int×Int)))) co_A2tInti64.len sz3 rfl rfl (by omega) rfl (Nat.lt_of_lt_of_eq (zz y) (z4f d a (((ix (ix m.rows s) a).out,(-1)):(Int×Int))).2) rfl rfl rfl (qg rfl ko) rfl rfl ?_
 refine z8 ?_
 exact⟨dkt,I,jd,(z4f (z4f d a (((ix (ix m.rows s) a).out,(-1)):(Int×Int))) a (((ix (z4f d a (((ix (ix m.rows s) a).out,(-1)):(Int×Int))).1 a).1,(ix p ((ix (ix m.rows s) a).to))):(Int×Int))),trivial,⟨[box u [(vi ((ix (ix m.rows s) a).to)),(vi ((ix (ix m.rows s) a).out))] 62],(List.Perm.refl _)⟩,(Option.some.inj c).symm,trivial⟩
 refine q8 ?_;exact⟨dkt,(RH.le.refl _),jd,(z4f d a (((ix (ix m.rows s) a).out,(-1)):(Int×Int))),trivial,⟨[box u [(vi ((ix (ix m.rows s) a).to)),(vi ((ix (ix m.rows s) a).out))] 62],(List.Perm.refl _)⟩,(Option.some.inj c).symm,trivial⟩;rintro t al am K ⟨rfl,_⟩;refine zy ?_;obtain⟨Z,b⟩:=zf b
 refine zo (qz rfl rfl Z) (zg (vi (a+1)) (z8 ?_));exact⟨dkt,K,jd,(l,a+1,t),Nat.lt_succ_self _,⟨rfl,trivial⟩,prm,b,trivial⟩;refine jf ?_;exact⟨dkt,f,jd,d,trivial,prm,(Option.some.inj b).symm,trivial⟩;rintro e an ao L ⟨rfl,_⟩
 refine zi (zo (za5 (j:=1) (v:=(z5s e)) q1l zwz rfl rfl (co_A16A2tInti64.len _) rfl) (zi6 (j:=0) (cs:=(vg (z9y 16 (List.replicate 16 (((0:Int),(0:Int)):(Int×Int)))))) (cs':=(vg e)) zwz rfl rfl (co_A16A2tInti64.len _) (co_A16A2tInti64.len _) rfl rfl (zlx (zc8 _)) ?_));refine z8 (qm ?_)
 obtain rfl:=Option.some.inj k;refine qa (D:=[]) (J:=[box M (vg e) 152,box B (vg e) 152]) (rs:=[.cell 6 152]) (vs:=[(z5s e)]) (C.trans L) rfl rfl ⟨⟨_,rfl,fun w hh=>zw2 (i:=0) hh rfl q1l zwz (co_A16A2tInti64.len _)⟩,trivial⟩ ?_;exact⟨rfl,rfl⟩
theorem q4e:Enters prog 107:=enters_of func107 rfl (by kernel_rfl)
theorem q1r: ∀ w,∃ z,(zeroValue 155).run prog w= .ok z w∧z.cells=((cz (⟨(0:Int),(z9y 16 (List.replicate 16 (((0:Int),(0:Int)):(Int×Int))))⟩:Sa))).toArray:=fun w=>⟨(.agg #[(vi 0),(vi 0),(vi 0),(vi 0),(vi 0),(vi 0),(vi 0),(vi 0),(vi 0),(vi 0),(vi 0),(vi 0),(vi 0),(vi 0),(vi 0),(vi 0),(vi 0),(vi 0),(vi 0),(vi 0),(vi 0),(vi 0),(vi 0),(vi 0),(vi 0),(vi 0),(vi 0),(vi 0),(vi 0),(vi 0),(vi 0),(vi 0),(vi 0)]),by kernel_rfl,by kernel_rfl⟩
theorem ztw: ∀ w,(sizeOf 155).run prog w= .ok 33 w:=fun w=>by kernel_rfl
theorem zz1: ∀ w,(isAgg 155).run prog w= .ok true w:=fun w=>by kernel_rfl
theorem mz3: ∀ w,(zeroValue 3).run prog w= .ok ((Value.int .i64) (0:Int)) w:=fun w=>by kernel_rfl
theorem kt3:KTy prog 3 1 1 false (fun cs=> ∃ x,cs=[.int .i64 x]):=q0l underlying3 (by kernel_rfl)
theorem q4m:KTy prog 73 2 (2*1) true (zl8 2 (fun cs=> ∃ x,cs=[.int .i64 x])):=zsu underlying73 (by kernel_rfl) kt3
theorem q1m(x:(Int×Int)):zl8 2 (fun cs=> ∃ x,cs=[.int .i64 x]) (z0q x):=⟨[[(vi x.1)],[(vi x.2)]],rfl,by
      intro c a
      simp only [List.mem_cons,List.not_mem_nil,or_false] at a
      rcases a with rfl|rfl
      · exact⟨x.1,rfl⟩
      · exact⟨x.2,rfl⟩,rfl⟩
theorem kt152:KTy prog 152 3 (16*2) true (zl8 16 (zl8 2 (fun cs=> ∃ x,cs=[.int .i64 x]))):=zsu underlying152 (by kernel_rfl) q4m
theorem q27(x:Sa):(fun cs=> ∃ a b,(fun cs=> ∃ x,cs=[.int .i64 x]) a∧(fun cs=> ∃ a b,(zl8 16 (zl8 2 (fun cs=> ∃ x,cs=[.int .i64 x]))) a∧(fun cs=>cs=[]) b∧cs=a++b) b∧cs=a++b) (cz x):=⟨_,_,⟨x.fAi,rfl⟩,⟨_,_,(zzs (fun x=>(q1m x)) x.fAc),rfl,(List.append_nil _).symm⟩,rfl⟩
theorem q59:KTy prog 155 4 33 true (fun cs=> ∃ a b,(fun cs=> ∃ x,cs=[.int .i64 x]) a∧(fun cs=> ∃ a b,(zl8 16 (zl8 2 (fun cs=> ∃ x,cs=[.int .i64 x]))) a∧(fun cs=>cs=[]) b∧cs=a++b) b∧cs=a++b):=zrg underlying155 (by kernel_rfl) (by kernel_rfl) (.cons (by decide) rfl (kt3.mono (by decide)) (.cons (by decide) rfl (kt152.mono (by decide)) .nil)) (by
  rintro cs ⟨e,f,c,⟨g,h,d,rfl,rfl⟩,rfl⟩
  simp only [List.length_append,List.length_nil,kt3.len _ c,kt152.len _ d])
theorem zwx:KOk prog 155 lg:=zx6 q59 (by decide) (by rw [underlying155]) (fun _=>rfl) (fun x=>(q27 x)) zie zcc
theorem zg0{N:Nat}{R:RH}{m:Mach}{G:Value}(H:VRep (je false false) R G m){p:(List Int)}{o:Value}(y:VRep (tSl false (zx .i64)) R o p){r:(List Int)}(q:z4q N m p=some r):CallP prog 102 #[G,o] R (fun v R'=>VRep (tSl true (zx .i64)) R' v r):=by
 refine qd (args:=[G,o]) func102 rfl rfl fun A=>?_;rw [z4q] at q;refine zi (kg (T:=(je false false)) rfl rfl rfl H fun v1 R3 n h5 h2=>?_);refine zh vs0 (qw (zk9 (ke:=lg) (ve:=(Value.int .i64)) rfl fun I f7 h8=>?_))
 refine zh I (qw (zg o (zo (qi rfl underlying25 rfl (qy (y.mono n))) ?_)));obtain⟨z,q⟩:=zf q;refine z2t (T:=(zx .i64)) (m:=(↑p.length:Int).toNat) (c:=(↑p.length:Int).toNat) rfl underlying25 zo3 (ze rfl z.1) (ze rfl z.1) (Nat.le_refl _) (z2u z) (z2v z) fun f Z K aa=>?_;refine zh f (z8 ?_)
 obtain⟨s,b,q⟩:=zt q;refine ql (γ:=(List Int)×Frag) (rs [7,12,16,48]) (fun g=>[]) (fun g=>[g.2]++A) (fun g R=>s=g.1∧ORep (zx .i64) R g.2 f g.1∧capOf f=g.1.length∧True) ?_ ?_
 refine zi (zg o (zo (qi rfl underlying25 rfl (qy (y.mono n))) (zg (vi 0) (z8 (zw (ja (γ:=Nat×Int×(List (Sa×Int))×(List Int)×Frag×Frag) (rs [7,12,18,48]) (fun g=>[(18,(vi g.2.1))]) (fun g=>[g.2.2.2.2.1,g.2.2.2.2.2]++A) (fun g R=>ow N m p g.1 g.2.1 g.2.2.1 g.2.2.2.1=some s∧MRep lg (Value.int .i64) R g.2.2.2.2.1 I g.2.2.1∧ORep (zx .i64) R g.2.2.2.2.2 f g.2.2.2.1∧capOf f=g.2.2.2.1.length∧True) (fun g=>g.1) (N,0,[],(mk (↑p.length:Int) (0:Int)),f7,Z) ⟨[],(pk 1 rfl (pk 0 rfl (List.Perm.refl _)))⟩ ⟨b,h8,aa,(K.trans List.length_replicate.symm),trivial⟩ ?_))))))
 clear b;rintro⟨B,a,h,L,P,Q⟩ av aw l ⟨b,C,M,F,_⟩;rcases B with _|B;exact qp b;replace b:ow N m p (B+1) a h L=some s:=b;rw [ow] at b;refine zi (zo (j3 rfl rfl) (z8 (q9 (zu rfl b (fun b=>?_) (fun b=>?_)))))
 refine q8 (q9 (zw (zi (zg (vi a) ?_))));obtain⟨S,b⟩:=zf b;refine jv (i:=a.toNat) rfl tu rfl (qy (y.mono (n.trans l))) (ze rfl S.1) (zz S) fun ax ab=>?_;refine qh rfl ty3 rfl ab fun ay ac=>?_;obtain rfl:=j5.1 ac
 refine zh (vi a) (zh (vi (ix p a)) (qw (zg (vi (ix p a)) (zo (jk fe rfl rfl (h5.mono l) (H.mono (n.trans l))) (zg o (zg (vi a) ?_))))));obtain⟨d,ad,b⟩:=zt b;refine jb rfl q4e rfl (zjm (H.mono (n.trans l)) (y.mono (n.trans l)) ad) fun az aA e ae=>?_
 obtain rfl:=ae
 refine zo (zqn (ps:=[(0,(vi (ix p a))),(1,(z5s d))]) (pls:= #[(0,1),(1,32)]) (out:=(cz (⟨(ix p a),d⟩:Sa))) (k:=33) (v:=(lg (⟨(ix p a),d⟩:Sa))) rfl underlying155 (zzl (co_Srefines_key.len _) q1r) (fun w=>by kernel_rfl) (.cons rfl rfl (.last rfl (by simp only [co_A16A2tInti64.len];rfl))) (co_Srefines_key.len _) rfl) (uq rfl q1r fun U=>?_)
 refine zi6 (j:=0) (cs:=(cz (⟨(0:Int),(z9y 16 (List.replicate 16 (((0:Int),(0:Int)):(Int×Int))))⟩:Sa))) (cs':=(cz (⟨(ix p a),d⟩:Sa))) ztw rfl rfl (co_Srefines_key.len _) (co_Srefines_key.len _) rfl rfl (zlx (zcc _)) ?_;refine z8 ?_;obtain⟨E,t,b⟩:=zt b
 refine ql (γ:=(List (Sa×Int))×Frag) (rs [10,12,29,41]) (fun g=>[]) (fun g=>[g.2,Q,box U (cz (⟨(ix p a),d⟩:Sa)) 155]++A) (fun g R=>E=g.1∧MRep lg (Value.int .i64) R g.2 I g.1∧True) ?_ ?_
 refine zi (zg I (zo (za5 (j:=0) (v:=(lg (⟨(ix p a),d⟩:Sa))) zz1 ztw rfl rfl (co_Srefines_key.len _) rfl) (zo (zqa (k:=(⟨(ix p a),d⟩:Sa)) underlying150 zwx mz3 (zim (i:=1) rfl (C.mono e)) rfl rfl) (zg (.tuple #[(vi (zaf (0:Int) h (⟨(ix p a),d⟩:Sa))),(.bool (z6z h (⟨(ix p a),d⟩:Sa)))]) (zo (jq rfl rfl) (zo (jq rfl rfl) (zh (vi (zaf (0:Int) h (⟨(ix p a),d⟩:Sa))) (zh (.bool (z6z h (⟨(ix p a),d⟩:Sa))) (qw (zg (.bool (z6z h (⟨(ix p a),d⟩:Sa))) (zo (l8 rfl) (z8 (zu rfl t (fun t=>?_) (fun t=>?_))))))))))))))
 refine zy (zg I (zo (za5 (j:=0) (v:=(lg (⟨(ix p a),d⟩:Sa))) zz1 ztw rfl rfl (co_Srefines_key.len _) rfl) (zg I (zo (zxx rfl underlying150 rfl (zim (i:=1) rfl (C.mono e))) (zgn (i:=1) (k:=(⟨(ix p a),d⟩:Sa)) (u:=(↑h.length:Int)) underlying150 zwx rfl (C.mono e) rfl rfl rfl fun af ag=>?_)))))
 refine z8 ?_;exact⟨dkt,(RH.le.refl _),jd,((zek h (⟨(ix p a),d⟩:Sa) (↑h.length:Int)),af),trivial,⟨[],(pk 1 rfl (pk 1 rfl (pk 0 rfl (List.Perm.refl _))))⟩,(Option.some.inj t).symm,ag,trivial⟩;refine q8 ?_
 exact⟨dkt,(RH.le.refl _),jd,(h,P),trivial,⟨[],(pk 1 rfl (pk 1 rfl (pk 0 rfl (List.Perm.refl _))))⟩,(Option.some.inj t).symm,(C.mono e),trivial⟩;rintro⟨E,ah⟩ aB aC x ⟨rfl,V,_⟩
 refine zy (zg f (zg (vi a) (zg I (zo (za5 (j:=2) (v:=(lg (⟨(ix p a),d⟩:Sa))) zz1 ztw rfl rfl (co_Srefines_key.len _) rfl) (zo (zke (k:=(⟨(ix p a),d⟩:Sa)) underlying150 zwx mz3 (zim (i:=0) rfl V) rfl rfl) ?_)))));obtain⟨O,b⟩:=zf b
 refine uz (i:=a.toNat) rfl tu rfl (M.mono (e.trans x)) (ze rfl O.1) (zz O) fun aD ai=>?_;refine o8 (i:=a.toNat) (j:=1) ty3 (M.mono (e.trans x)) rfl rfl ai (zz O) rfl (j5.2 rfl) fun aj ak=>?_;refine z8 (zy ?_);obtain⟨al,b⟩:=zf b
 refine zo (qz rfl rfl al) (zg (vi (a+1)) (z8 ?_))
 exact⟨dkt,(e.trans x),jd,(B,a+1,E,(up L a (zaf (0:Int) E (⟨(ix p a),d⟩:Sa))),ah,aj),Nat.lt_succ_self _,⟨rfl,trivial⟩,⟨[box U (cz (⟨(ix p a),d⟩:Sa)) 155],(pk 2 rfl (pk 0 rfl (pk 0 rfl (List.Perm.refl _))))⟩,b,V,ak,(F.trans List.length_set.symm),trivial⟩;refine jf ?_
 exact⟨dkt,l,jd,(L,Q),trivial,⟨[P],(List.Perm.refl _)⟩,(Option.some.inj b).symm,M,F,trivial⟩;rintro⟨s,aE⟩ aF aG W ⟨rfl,am,X,_⟩;refine zi (zg f (zh f (z8 (yf (i:=0) rfl am fun an Y ao=>?_))));have ap:VRep (tSl true (zx .i64)) an f s:=(z1d ao X);refine qm ?_;obtain rfl:=Option.some.inj q
 refine qa (D:=[]) (J:=[]) (rs:=[.tmp 4]) (vs:=[f]) ((n.trans W).trans Y) rfl rfl ⟨rfl,trivial⟩ ?_;exact⟨rfl,ap⟩
end GV
end Go.Proofs.Ytplgbkaollfmkaa
