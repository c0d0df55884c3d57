import Derived.Test.YtkhihcleegljhaaShPlain
import Derived.Test.YtkhihcleegljhaaRows
set_option linter.unusedVariables false
set_option linter.unusedSimpArgs false
set_option linter.unusedSectionVars false
namespace Go.Proofs.Ytkhihcleegljhaa
namespace GV
open _root_.Go.Proofs.Try
open Go.IntWalk
set_option maxRecDepth 100000
set_option maxHeartbeats 20000000
theorem zcp:ZeroOk prog 65 kEdge (⟨(0:Int),(0:Int)⟩:Edge) 16:=by
 obtain⟨i,zv,hi,a,c,d,f⟩:=z2i (P:=prog) (e:=65) (zv:=(.agg #[(vi 0),(vi 0)])) (k:=2) (b:=16) (by kernel_rfl);exact⟨i,zv,hi,a,c,d,fun R=>by subst f;exact⟨_,_,rfl,rfl,rfl⟩⟩
theorem zh5{a:Bool}:ZeroOk prog 45 (tSl a kEdge) ([]:List Edge) 24:=by
 obtain⟨i,zv,hi,c,d,f,g⟩:=z2i (P:=prog) (e:=45) (zv:=vs0) (k:=1) (b:=24) (by kernel_rfl);exact⟨i,zv,hi,c,d,f,fun R=>by subst g;exact(qy rfl z0j)⟩
theorem ze7: ∀ w,∃ z,(zeroValue 48).run prog w= .ok z w∧z.cells=([.int .i64 0,.int .i64 0,.slice none 0 0]:List Value).toArray:=fun w=>⟨(.agg #[(vi 0),(vi 0),vs0]),by kernel_rfl,rfl⟩
theorem z6k: ∀ w,(sizeOf 48).run prog w= .ok 3 w:=fun w=>by kernel_rfl
theorem zo3:ZeroOk prog 3 (zm .i64) (0:Int) 8:=by
 obtain⟨i,zv,hi,a,c,d,f⟩:=z2i (P:=prog) (e:=3) (zv:=(vi 0)) (k:=1) (b:=8) (by kernel_rfl);exact⟨i,zv,hi,a,c,d,fun R=>by subst f;exact rfl⟩
theorem z4u{a:Bool}:ZeroOk prog 33 (tSl a (zm .i64)) ([]:List Int) 24:=by
 obtain⟨i,zv,hi,c,d,f,g⟩:=z2i (P:=prog) (e:=33) (zv:=vs0) (k:=1) (b:=24) (by kernel_rfl);exact⟨i,zv,hi,c,d,f,fun R=>by subst g;exact(qy rfl z0j)⟩
theorem z6z{a:Bool}:TyOk prog 33 (tSl a (zm .i64)):=by
 obtain⟨i,hi,b⟩: ∃ i,prog.info? 33=some i∧i.size=1:=tq (by kernel_rfl);exact z1u underlying33 hi rfl b
theorem z7n{a:Bool}:SlOk prog 25 33 (tSl a (zm .i64)):=⟨underlying25,z6z⟩
theorem z6y{N:Nat}{R:RH}{inputs:Int}{k:Int}{r:(List (List Int))}(u:lh N inputs k=some r):CallP prog 21 #[(vi inputs),(vi k)] R (fun v R'=>VRep (tSl false (tSl false (zm .i64))) R' v r):=by
 refine qi (args:=[(vi inputs),(vi k)]) func21 rfl rfl fun A=>?_;rw [lh] at u;refine zq (zl vs0 (qw (vg (T:=(zm .i64)) (X:=([]:List Int)) (ps:=[]) (css:=[]) rfl underlying33 zo3 rfl rfl (qx trivial) rfl rfl (by decide) fun v1 f2 U h4=>?_)));refine jf (i:=0) rfl h4 fun R6 ay h8=>?_
 have h9:VRep (tSl true (zm .i64)) R6 v1 ([]:List Int):=(ou h8 U)
 refine vg (T:=(tSl false (zm .i64))) (X:=([([]:List Int)]:List (List Int))) (ps:=[(0,v1)]) (css:=[[v1]]) rfl underlying25 z4u rfl (by simp only [List.map_cons,List.map_nil,ky h9];rfl) (qx ⟨(qy rfl (Sub.v (B:=(tSl false (zm .i64))) (j5 Sub.refl (fun _=>rfl)) h9)),trivial⟩) rfl rfl (by decide) fun V az aA aB=>?_
 refine zl V (ze ?_);obtain⟨l,c,u⟩:=zt u;refine ql (γ:=(List (List Int))×Value×Frag) (rs [5,10,12,41]) (fun g=>[(5,g.2.1)]) (fun g=>[g.2.2]++A) (fun g R=>l=g.1∧ORep (tSl false (zm .i64)) R g.2.2 g.2.1 g.1∧True) ?_ ?_
 refine zq (zl (vi 0) (ze (qa (j4 (γ:=Nat×(List (List Int))×Int×Value×Frag) (rs [5,10,12,41]) (fun g=>[(5,g.2.2.2.1),(6,(vi g.2.2.1))]) (fun g=>[g.2.2.2.2]++A) (fun g R=>iw N inputs k g.1 g.2.1 g.2.2.1=some l∧ORep (tSl false (zm .i64)) R g.2.2.2.2 g.2.2.2.1 g.2.1∧True) (fun g=>g.1) (N,([([]:List Int)]:List (List Int)),0,V,az) prm ⟨c,aB,trivial⟩ ?_))))
 clear c;rintro⟨w,f,m,I,n⟩ aZ a8 W ⟨c,x,_⟩;rcases w with _|w;exact qj c;replace c:iw N inputs k (w+1) f m=some l:=c;rw [iw] at c;refine zw (zq (zh (vi m) (zh (vi k) (zz (jc rfl rfl) (ze (q8 rfl c (fun c=>?_) (fun c=>?_)))))))
 refine qb (zw (qa (zq (zl vs0 (ze ?_)))));obtain⟨o,d,c⟩:=zt c;refine ql (γ:=(List (List Int))×Value×Frag) (rs [7,10,17,40]) (fun g=>[(7,g.2.1)]) (fun g=>[g.2.2]++A) (fun g R=>o=g.1∧ORep (tSl false (zm .i64)) R g.2.2 g.2.1 g.1∧True) ?_ ?_;refine zq (zl (vi 0) (ze (qa (z5p ?_))))
 refine j4 (γ:=Nat×(List (List Int))×Int×Value×Frag) (rs [7,10,17,40]) (fun g=>[(7,g.2.2.2.1),(8,(vi g.2.2.1))]) (fun g=>[n,g.2.2.2.2]++A) (fun g R=>ic N inputs f g.1 g.2.1 g.2.2.1=some o∧ORep (tSl false (zm .i64)) R g.2.2.2.2 g.2.2.2.1 g.2.1∧True) (fun g=>g.1) (N,[],0,vs0,emp) ⟨[],(pk 1 rfl (pk 0 rfl (List.Perm.refl _)))⟩ ⟨d,(z1p (T:=(tSl false (zm .i64)))),trivial⟩ ?_
 clear d;rintro⟨y,K,b,Z,aa⟩ a0 a9 h ⟨d,ab,_⟩;rcases y with _|y;exact qj d;replace d:ic N inputs f (y+1) K b=some o:=d;rw [ic] at d
 refine zw (zq (zh (vi b) (zh I (zz (z1a rfl underlying25 rfl (x.mono h)) (zz (jc rfl rfl) (ze (q8 rfl d (fun d=>?_) (fun d=>?_))))))));refine qb ?_;obtain⟨p,a,d⟩:=zt d
 refine ql (γ:=(List (List Int))×Value×Frag) (rs [7,8,9,10,23,40]) (fun g=>[(7,g.2.1)]) (fun g=>[n,g.2.2]++A) (fun g R=>p=g.1∧ORep (tSl false (zm .i64)) R g.2.2 g.2.1 g.1∧True) ?_ ?_
 refine qa (zq (zl (vi 0) (ze (qa (j4 (γ:=Nat×Int×(List (List Int))×Value×Frag) (rs [7,8,9,10,23,40]) (fun g=>[(7,g.2.2.2.1),(9,(vi g.2.1))]) (fun g=>[n,g.2.2.2.2]++A) (fun g R=>iy N inputs f b g.1 g.2.1 g.2.2.1=some p∧ORep (tSl false (zm .i64)) R g.2.2.2.2 g.2.2.2.1 g.2.2.1∧True) (fun g=>g.1) (N,0,K,Z,aa) prm ⟨a,ab,trivial⟩ ?_)))))
 clear a;rintro⟨z,e,C,ac,aC⟩ a1 ba q ⟨a,ad,_⟩;rcases z with _|z;exact qj a;replace a:iy N inputs f b (z+1) e C=some p:=a;rw [iy] at a;refine zw (zq (zh (vi e) (zh (vi inputs) (zz (jc rfl rfl) (ze (q8 rfl a (fun a=>?_) (fun a=>?_)))))))
 refine qb (zw (qa (zu (zh ac (vg (T:=(zm .i64)) (X:=([]:List Int)) (ps:=[]) (css:=[]) rfl underlying33 zo3 rfl rfl (qx trivial) rfl rfl (by decide) fun bb bc aD aE=>?_)))));refine zh I (zh (vi b) ?_);obtain⟨L,a⟩:=zg a
 refine z03 (i:=b.toNat) rfl z7n rfl (x.mono (h.trans q)) (zk rfl L.1) (zy L) fun be aF=>?_;refine z5v (i:=b.toNat) (j:=1) rfl z6z (x.mono (h.trans q)) rfl rfl aF (zy L) fun bf aG=>?_;obtain⟨ae,a⟩:=zg a
 refine z0d (i:=0) (X:=([]:List Int)) (Y:=(ix f b)) rfl underlying33 zo3 rfl rfl rfl aE (jr aG) ae.1 ae.2 fun bg bh aH=>?_
 refine zh (vi e) (vg (T:=(zm .i64)) (X:=([e]:List Int)) (ps:=[(0,(vi e))]) (css:=[[(vi e)]]) rfl underlying33 zo3 rfl rfl (qx ⟨rfl,trivial⟩) rfl rfl (by decide) fun aI bi M aJ=>?_);refine jf (i:=0) rfl aJ fun aK s aL=>?_;have aM:VRep (tSl true (zm .i64)) aK aI ([e]:List Int):=(ou aL M)
 obtain⟨af,a⟩:=zg a;refine z0d (i:=0) (X:=(([]:List Int)++(ix f b))) (Y:=([e]:List Int)) rfl underlying33 zo3 rfl rfl rfl (aH.mono s) (jr (Sub.v (B:=(tSl false (zm .i64))) (j5 Sub.refl (fun _=>rfl)) aM)) af.1 af.2 fun O bj aN=>?_;refine jf (i:=0) rfl aN fun aO F aP=>?_
 have ag:VRep (tSl false (zm .i64)) aO O ((([]:List Int)++(ix f b))++([e]:List Int)):=(z6j aP)
 refine vg (T:=(tSl false (zm .i64))) (X:=([((([]:List Int)++(ix f b))++([e]:List Int))]:List (List Int))) (ps:=[(0,O)]) (css:=[[O]]) rfl underlying25 z4u rfl (by simp only [List.map_cons,List.map_nil,ky ag];rfl) (qx ⟨(qy rfl ag),trivial⟩) rfl rfl (by decide) fun aQ bk P aR=>?_
 refine jf (i:=0) rfl aR fun ah t ai=>?_;have aj:VRep (tSl true (tSl false (zm .i64))) ah aQ ([((([]:List Int)++(ix f b))++([e]:List Int))]:List (List Int)):=(ou ai P);obtain⟨G,a⟩:=zg a
 refine z0d (i:=1) (X:=C) (Y:=([((([]:List Int)++(ix f b))++([e]:List Int))]:List (List Int))) rfl underlying25 z4u rfl rfl rfl (ad.mono ((s.trans F).trans t)) (jr (Sub.v (B:=(tSl false (tSl false (zm .i64)))) (j5 Sub.refl (fun _=>rfl)) aj)) G.1 G.2 fun H ak al=>?_
 refine zl H (ze (zu (zh (vi e) ?_)));obtain⟨am,a⟩:=zg a;refine zz (qm rfl rfl am) (zl (vi (e+1)) (ze ?_))
 exact⟨dkt,((s.trans F).trans t),jg,(z,e+1,(C++([((([]:List Int)++(ix f b))++([e]:List Int))]:List (List Int))),H,ak),Nat.lt_succ_self _,⟨rfl,rfl,trivial⟩,prm,a,al,trivial⟩;refine jb ?_;exact⟨dkt,q,jg,(C,ac,aC),⟨rfl,trivial⟩,prm,(Option.some.inj a).symm,ad,trivial⟩
 rintro⟨p,aS,aT⟩ a2 bl an ⟨rfl,aU,_⟩;refine zu (zh (vi b) ?_);obtain⟨ao,d⟩:=zg d;refine zz (qm rfl rfl ao) (zl (vi (b+1)) (ze ?_));exact⟨dkt,an,jg,(y,p,b+1,aS,aT),Nat.lt_succ_self _,⟨rfl,rfl,trivial⟩,prm,d,aU,trivial⟩;refine jb ?_
 exact⟨dkt,h,jg,(K,Z,aa),⟨rfl,trivial⟩,⟨[n],(List.Perm.refl _)⟩,(Option.some.inj d).symm,ab,trivial⟩;rintro⟨o,Q,aV⟩ a3 bm ap ⟨rfl,aW,_⟩;refine zu (zh Q (zl Q (ze (zu (zh (vi m) ?_)))));obtain⟨aq,c⟩:=zg c;refine zz (qm rfl rfl aq) (zl (vi (m+1)) (ze ?_))
 exact⟨dkt,ap,jg,(w,o,m+1,Q,aV),Nat.lt_succ_self _,⟨rfl,rfl,trivial⟩,prm,c,aW,trivial⟩;refine jb ?_;exact⟨dkt,W,jg,(f,I,n),⟨rfl,trivial⟩,prm,(Option.some.inj c).symm,x,trivial⟩;rintro⟨l,E,bn⟩ a4 bo ar ⟨rfl,aX,_⟩;refine zq (zh E (zl E (ze (l5 (i:=0) rfl aX fun au S av=>?_))))
 have aw:VRep (tSl false (tSl false (zm .i64))) au E l:=(z6j av);refine qd ?_;obtain rfl:=Option.some.inj u;refine qc (D:=[]) (J:=[]) (rs:=[.tmp 4]) (vs:=[E]) ((ay.trans ar).trans S) rfl rfl ⟨rfl,trivial⟩ ?_;exact⟨rfl,aw⟩
theorem zls:Enters prog 21:=enters_of func21 rfl (by kernel_rfl)
theorem zjv{a c:Bool}:ZeroOk prog 48 (mf a c) (⟨(0:Int),(0:Int),([]:List (List Edge))⟩:Mach) 40:=by
 obtain⟨i,zv,hi,d,f,g,h⟩:=z2i (P:=prog) (e:=48) (zv:=(.agg #[(vi 0),(vi 0),vs0])) (k:=3) (b:=40) (by kernel_rfl);exact⟨i,zv,hi,d,f,g,fun R=>by subst h;exact⟨_,_,rfl,rfl,⟨_,_,rfl,rfl,(qy rfl z0j)⟩⟩⟩
theorem zao: ∀ w,(isAgg 48).run prog w= .ok true w:=fun w=>by kernel_rfl
theorem zaj{a b:Bool}:TyOk prog 48 (mf a b):=by
 obtain⟨i,hi,c⟩: ∃ i,prog.info? 48=some i∧i.size=3:=tq (by kernel_rfl);exact z1u underlying48 hi rfl c
theorem ziw{a b:Bool}:SlOk prog 50 48 (mf a b):=⟨underlying50,zaj⟩
theorem z9p: ∀ w,∃ z,(zeroValue 27).run prog w= .ok z w∧z.cells=([.slice none 0 0]:List Value).toArray:=fun w=>⟨(.agg #[vs0]),by kernel_rfl,rfl⟩
theorem z8n:FieldOk prog 48 0 0:=by
 obtain⟨i,hi,a⟩: ∃ i,prog.info? 3=some i∧i.size=1:=tq (by kernel_rfl);exact z3d underlying48 rfl rfl hi (by rw [a];rfl)
theorem ty3:TyOk prog 3 (zm .i64):=by
 obtain⟨i,hi,a⟩: ∃ i,prog.info? 3=some i∧i.size=1:=tq (by kernel_rfl);exact z1u underlying3 hi rfl a
theorem zeh:FieldOk prog 48 1 1:=by
 obtain⟨i,hi,a⟩: ∃ i,prog.info? 3=some i∧i.size=1:=tq (by kernel_rfl);exact z3d underlying48 rfl rfl hi (by rw [a];rfl)
theorem za2:FieldOk prog 48 2 2:=by
 obtain⟨i,hi,a⟩: ∃ i,prog.info? 46=some i∧i.size=1:=tq (by kernel_rfl);exact z3d underlying48 rfl rfl hi (by rw [a];rfl)
theorem zfn{a b:Bool}:TyOk prog 46 (tSl a (tSl b kEdge)):=by
 obtain⟨i,hi,c⟩: ∃ i,prog.info? 46=some i∧i.size=1:=tq (by kernel_rfl);exact z1u underlying46 hi rfl c
theorem zjs{a:Bool}:TyOk prog 45 (tSl a kEdge):=by
 obtain⟨i,hi,b⟩: ∃ i,prog.info? 45=some i∧i.size=1:=tq (by kernel_rfl);exact z1u underlying45 hi rfl b
theorem zl6{a:Bool}:SlOk prog 46 45 (tSl a kEdge):=⟨underlying46,zjs⟩
theorem zhx:TyOk prog 65 kEdge:=by
 obtain⟨i,hi,a⟩: ∃ i,prog.info? 65=some i∧i.size=2:=tq (by kernel_rfl);exact z1u underlying65 hi rfl a
theorem zl1:SlOk prog 45 65 kEdge:=⟨underlying45,zhx⟩
theorem z4e{N:Nat}{R:RH}{s:(List Edge)}{c:Value}(k:VRep (tSl false kEdge) R c s){f:Edge→Option Bool}{e:Value}(n:FOk1 prog R e kEdge z2r f){r:Int}(b:z0c N s f=some r):CallP prog 76 #[c,e] R (fun v R'=>v=(vi r)):=by
 refine qi (args:=[c,e]) func76 rfl rfl fun A=>?_;rw [z0c] at b;refine zq (zl (vi 0) (ze ?_));obtain⟨o,a,b⟩:=zt b;refine ql (γ:=Unit) (rs [4,19]) (fun g=>[]) (fun g=>[]++A) (fun g R=>o=Ex.go g∧True) ?_ ?_
 refine zq (zh c (zz (qo rfl underlying45 rfl (jr k)) (zh (vi 0) (ze (qa (j4 (γ:=Nat×Int) (rs [4,6,8,19]) (fun g=>[(8,(vi g.2))]) (fun g=>[]++A) (fun g R=>bq N s f g.1 g.2=some o∧True) (fun g=>g.1) (N,0) prm ⟨a,trivial⟩ ?_))))));clear a;rintro⟨m,d⟩ y H h ⟨a,_⟩
 rcases m with _|m;exact qj a;replace a:bq N s f (m+1) d=some o:=a;rw [bq] at a;refine zq (zz (jc rfl rfl) (ze (zw (q8 rfl a (fun a=>?_) (fun a=>?_)))))
 refine qb (zw (qa (zq (zh (vi d) (zl (vi d) (qw (zh e (zh c (zh (vi d) ?_)))))))));obtain⟨l,a⟩:=zg a;refine ug (i:=d.toNat) rfl zl1 rfl (jr (k.mono h)) (zk rfl l.1) (zy l) fun z p=>?_;refine ji rfl zhx rfl p fun B q=>?_;obtain rfl:=z2g.1 q
 obtain⟨C,t,a⟩:=zt a;refine z6c rfl rfl rfl ((n.mono h) _ (RH.le.refl _) (ix s d) _ _ (z2g.2 rfl) t) fun E F j u=>?_;obtain rfl:=ai.1 u;refine ze (q8 rfl a (fun a=>?_) (fun a=>?_));refine zq (zh (vi d) (zl (vi d) (ze (qd ?_))));replace b:=lm a b;obtain rfl:=Option.some.inj b
 refine qc (D:=[]) (J:=[]) (rs:=[.tmp 4]) (vs:=[(vi d)]) (h.trans j) rfl rfl ⟨rfl,trivial⟩ ?_;exact⟨rfl,rfl⟩;refine qb (zu ?_);obtain⟨w,a⟩:=zg a;refine zz (qm rfl rfl w) (zh (vi (d+1)) (ze ?_));exact⟨dkt,j,jg,(m,d+1),Nat.lt_succ_self _,⟨rfl,trivial⟩,prm,a,trivial⟩;refine jb ?_
 exact⟨dkt,h,jg,(),trivial,prm,(Option.some.inj a).symm,trivial⟩;rintro I G K x ⟨rfl,_⟩;replace b:=z0o b;refine zq (zl (vi (-1)) (ze (qd ?_)));obtain rfl:=Option.some.inj b;refine qc (D:=[]) (J:=[]) (rs:=[.tmp 4]) (vs:=[(vi (-1))]) x rfl rfl ⟨rfl,trivial⟩ ?_;exact⟨rfl,rfl⟩
theorem zmm:Enters prog 76:=enters_of func76 rfl (by kernel_rfl)
theorem z3e{N:Nat}{R:RH}{s:(List Edge)}{a:Value}(d:VRep (tSl false kEdge) R a s){f:Edge→Option Bool}{b:Value}(e:FOk1 prog R b kEdge z2r f){r:Bool}(c:l9 N s f=some r):CallP prog 56 #[a,b] R (fun v R'=>v=(.bool r)):=by
 refine qi (args:=[a,b]) func56 rfl rfl fun A=>?_;rw [l9] at c;refine zq (zl (.bool false) (qw (zh a (zh b ?_))));obtain⟨h,i,c⟩:=zt c;refine qz rfl zmm rfl (z4e d e i) fun k l g j=>?_;obtain rfl:=j
 refine zz (mr rfl rfl) (zl (.bool (decide (0≤h))) (ze (qd ?_)));obtain rfl:=Option.some.inj c;refine qc (D:=[]) (J:=[]) (rs:=[.tmp 4]) (vs:=[(.bool (decide (0≤h)))]) g rfl rfl ⟨rfl,trivial⟩ ?_;exact⟨rfl,rfl⟩
theorem zlw:Enters prog 56:=enters_of func56 rfl (by kernel_rfl)
theorem zkr: ∀ w,∃ z,(zeroValue 65).run prog w= .ok z w∧z.cells=([.int .i64 0,.int .i64 0]:List Value).toArray:=fun w=>⟨(.agg #[(vi 0),(vi 0)]),by kernel_rfl,rfl⟩
theorem zja: ∀ w,(sizeOf 65).run prog w= .ok 2 w:=fun w=>by kernel_rfl
theorem zle: ∀ w,(isAgg 65).run prog w= .ok true w:=fun w=>by kernel_rfl
theorem z6t{N:Nat}{R:RH}  {r:Edge} (a:z3i N  =some r):CallP prog 77 #[] R (fun v R'=>v=(z3u r)):=by
 refine qi (args:=[]) func77 rfl rfl fun A=>?_;rw [z3i] at a;refine zq (bn rfl zkr fun b=>?_)
 refine qw (zz (mq (ps:=[(0,(vi (-1))),(1,(vi (-1)))]) (v:=(.agg #[(vi (-1)),(vi (-1))])) rfl (fun w=>by kernel_rfl)) (wz (i:=0) (vs:=[(vi (-1)),(vi (-1))]) zja rfl rfl rfl rfl rfl rfl (jm rfl (jm rfl xh)) ?_));refine ze (qd ?_);obtain rfl:=Option.some.inj a
 refine qc (D:=[]) (J:=[box b [(vi (-1)),(vi (-1))] 65]) (rs:=[.cell 0 65]) (vs:=[(.agg #[(vi (-1)),(vi (-1))])]) (RH.le.refl _) rfl rfl ⟨⟨_,rfl,fun w c=>z2h (i:=0) c rfl rfl zle zja rfl rfl⟩,trivial⟩ ?_;exact⟨rfl,rfl⟩
theorem zkd:Enters prog 77:=enters_of func77 rfl (by kernel_rfl)
theorem zlo:zhy prog 65:=zcv (f0:=((prog.fieldsOf 65).toList.getD 0 default)) (f1:=((prog.fieldsOf 65).toList.getD 1 default)) (by kernel_rfl) (by kernel_rfl) (by kernel_rfl) (by kernel_rfl) (by kernel_rfl) (by kernel_rfl) (by kernel_rfl) (by kernel_rfl) (by kernel_rfl) (by kernel_rfl)
theorem zew:FieldOk prog 65 0 0:=by
 obtain⟨i,hi,a⟩: ∃ i,prog.info? 3=some i∧i.size=1:=tq (by kernel_rfl);exact z3d underlying65 rfl rfl hi (by rw [a];rfl)
theorem zes:FieldOk prog 65 1 1:=by
 obtain⟨i,hi,a⟩: ∃ i,prog.info? 3=some i∧i.size=1:=tq (by kernel_rfl);exact z3d underlying65 rfl rfl hi (by rw [a];rfl)
theorem mixed:prog.follows .mixedOrders=true:=by kernel_rfl
theorem zan{N:Nat}{R:RH}{m:Mach}{p:Value}(w:VRep (mf false false) R p m){x:Edge}{r:Bool}(n:z5q N m x=some r):CallP prog 58 #[p,(z3u x)] R (fun v R'=>v=(.bool r)):=by
 refine qi (args:=[p,(z3u x)]) func58 rfl rfl fun A=>?_;rw [z5q] at n;refine zq (bg (T:=(mf false false)) rfl rfl rfl w fun v1 R3 y h5 K=>?_);refine z94 (T:=kEdge) rfl rfl (z2g.2 rfl) fun v6 R8 q t=>?_;refine zl (.bool false) (ze (zw ?_));obtain⟨b,z,n⟩:=zt n
 let B:=((decide (x.to=b.to∧x.out=b.out))||((((decide (0≤x.to))&&(decide (x.to<(↑m.rows.length:Int))))&&(decide (0≤x.out)))&&(decide (x.out<m.outputs))));let L:=((((decide (0≤x.to))&&(decide (x.to<(↑m.rows.length:Int))))&&(decide (0≤x.out)))&&(decide (x.out<m.outputs)))
 let o:=(((decide (0≤x.to))&&(decide (x.to<(↑m.rows.length:Int))))&&(decide (0≤x.out)));let k:=((decide (0≤x.to))&&(decide (x.to<(↑m.rows.length:Int))));let e:=(true&&((decide (x.to=b.to∧x.out=b.out))==false))
 refine bu 29 [] [phX (z3u x),phX (z3u b),phX (.bool (decide (x.to=b.to∧x.out=b.out))),phX (.bool (decide (x.to=b.to∧x.out=b.out))),phG e (phP (zm .i64) x.to),phG e (phX (vi x.to)),phG e (phX (.bool (decide (0≤x.to)))),phG e (phX (.bool (decide (0≤x.to)))),phG (e&&((decide (0≤x.to))==true)) (phP (zm .i64) x.to),phG (e&&((decide (0≤x.to))==true)) (phX (vi x.to)),phG (e&&((decide (0≤x.to))==true)) (phP (tSl false (tSl false kEdge)) m.rows),phG (e&&((decide (0≤x.to))==true)) (phR (tSl false (tSl false kEdge)) m.rows),phG (e&&((decide (0≤x.to))==true)) (phX (vi (↑m.rows.length:Int))),phG (e&&((decide (0≤x.to))==true)) (phX (.bool (decide (x.to<(↑m.rows.length:Int))))),phG e (phX (.bool k)),phG e (phX (.bool k)),phG (e&&(k==true)) (phP (zm .i64) x.out),phG (e&&(k==true)) (phX (vi x.out)),phG (e&&(k==true)) (phX (.bool (decide (0≤x.out)))),phG e (phX (.bool o)),phG e (phX (.bool o)),phG (e&&(o==true)) (phP (zm .i64) x.out),phG (e&&(o==true)) (phX (vi x.out)),phG (e&&(o==true)) (phP (zm .i64) m.outputs),phG (e&&(o==true)) (phX (vi m.outputs)),phG (e&&(o==true)) (phX (.bool (decide (x.out<m.outputs)))),phG e (phX (.bool L)),phX (.bool B),phX (.bool B)] mixed (by kernel_rfl) (xu ⟨za,za,za,za,(qh z2v),(qh za),(qh za),(qh za),(qh z2v),(qh za),(qh z2v),(qh z01),(qh za),(qh za),(qh za),(qh za),(qh z2v),(qh za),(qh za),(qh za),(qh za),(qh z2v),(qh za),(qh z2v),(qh za),(qh za),(qh za),za,za,trivial⟩) ⟨?_,?_,?_,?_,?_,?_,?_,?_,?_,?_,?_,?_,?_,?_,?_,?_,?_,?_,?_,?_,?_,?_,?_,?_,?_,?_,?_,?_,?_,trivial⟩ fun ai u=>?_
 intro l aj a g hd;exact zi rfl rfl rfl (j3 (il zhx (g 3 rfl) (t.mono a)) (fun _ _ h=>z2g.1 h));intro l al a g hd;exact zi rfl rfl rfl (kw (vs:=[]) zkd rfl (z6t  z) (fun _ _ h=>h));rintro l am a g ⟨c,f,_⟩;exact zi rfl rfl rfl (zf (zi8 zlo (c rfl) (f rfl)));rintro l an a g ⟨c,f,_⟩
 exact zi rfl rfl rfl (zf (zb (c rfl)));rintro l ao a g ⟨c,_⟩;exact zx (Gj:=true) (Bj:=decide (x.to=b.to∧x.out=b.out)) rfl rfl rfl (jl (c rfl)) rfl (fun i d=>z4h zew zdr (g 3 rfl) (t.mono a));rintro l ap a g ⟨c,f,_⟩
 exact zx (Gj:=true) (Bj:=decide (x.to=b.to∧x.out=b.out)) rfl rfl rfl (jl (f rfl)) rfl (fun i d=>j3 (il ty3 rfl ((c rfl).1 (zo rfl d))) (fun _ _ h=>q9.1 h));rintro l aq a g ⟨c,f,_⟩
 exact zx (Gj:=true) (Bj:=decide (x.to=b.to∧x.out=b.out)) rfl rfl rfl (jl (f rfl)) rfl (fun i d=>zf (mr (show l 10=(vi x.to) from(c rfl).1 (zo rfl d)) rfl));rintro l ar a g ⟨c,f,j,_⟩
 exact zx (Gj:=true) (Bj:=decide (x.to=b.to∧x.out=b.out)) rfl rfl rfl (jl (f rfl)) rfl (fun i d=>zf (zb (show l 11=(.bool (decide (0≤x.to))) from(c rfl).1 (zo rfl d))));rintro l au a g ⟨c,_⟩;exact zx (Gj:=e) (Bj:=decide (0≤x.to)) rfl rfl rfl (c rfl) rfl (fun i d=>z4h zew zdr (g 3 rfl) (t.mono a))
 rintro l av a g ⟨c,f,_⟩;exact zx (Gj:=e) (Bj:=decide (0≤x.to)) rfl rfl rfl (f rfl) rfl (fun i d=>j3 (il ty3 rfl ((c rfl).1 (zo i d))) (fun _ _ h=>q9.1 h));rintro l M a g ⟨c,_⟩;exact zx (Gj:=e) (Bj:=decide (0≤x.to)) rfl rfl rfl (c rfl) rfl (fun i d=>z4h za2 z6b (g 2 rfl) ((K.mono q).mono a))
 rintro l O a g ⟨c,f,_⟩;exact zx (Gj:=e) (Bj:=decide (0≤x.to)) rfl rfl rfl (f rfl) rfl (fun i d=>il zfn rfl ((c rfl).1 (zo i d)));rintro l P a g ⟨c,f,_⟩;exact zx (Gj:=e) (Bj:=decide (0≤x.to)) rfl rfl rfl (f rfl) rfl (fun i d=>zf (qo rfl underlying46 rfl (jr ((c rfl).1 (zo i d)))))
 rintro l Q a g ⟨c,f,j,_⟩;exact zx (Gj:=e) (Bj:=decide (0≤x.to)) rfl rfl rfl (j rfl) rfl (fun i d=>zf (jc (show l 14=(vi x.to) from(c rfl).1 (zo i d)) (show l 17=(vi (↑m.rows.length:Int)) from(f rfl).1 (zo i d))));rintro l S a g ⟨c,f,j,_⟩
 exact zx (Gj:=true) (Bj:=decide (x.to=b.to∧x.out=b.out)) rfl rfl rfl (jl (j rfl)) rfl (fun i d=>zf (xg (show l 12=(.bool (decide (0≤x.to))) from(c rfl).1 (zo rfl d)) (fun s=>(show l 18=(.bool (decide (x.to<(↑m.rows.length:Int)))) from(f rfl).1 (zo (zo rfl d) s))) rfl));rintro l U a g ⟨c,f,j,_⟩
 exact zx (Gj:=true) (Bj:=decide (x.to=b.to∧x.out=b.out)) rfl rfl rfl (jl (j rfl)) rfl (fun i d=>zf (zb (show l 19=(.bool k) from(c rfl).1 (zo rfl d))));rintro l V a g ⟨c,_⟩
 exact zx (Gj:=e) (Bj:=(decide (0≤x.to))&&(decide (x.to<(↑m.rows.length:Int)))) rfl rfl rfl (c rfl) rfl (fun i d=>z4h zes zdk (g 3 rfl) (t.mono a));rintro l W a g ⟨c,f,_⟩
 exact zx (Gj:=e) (Bj:=(decide (0≤x.to))&&(decide (x.to<(↑m.rows.length:Int)))) rfl rfl rfl (f rfl) rfl (fun i d=>j3 (il ty3 rfl ((c rfl).1 (zo i d))) (fun _ _ h=>q9.1 h));rintro l X a g ⟨c,f,_⟩
 exact zx (Gj:=e) (Bj:=(decide (0≤x.to))&&(decide (x.to<(↑m.rows.length:Int)))) rfl rfl rfl (f rfl) rfl (fun i d=>zf (mr (show l 22=(vi x.out) from(c rfl).1 (zo i d)) rfl));rintro l Y a g ⟨c,f,j,_⟩
 exact zx (Gj:=true) (Bj:=decide (x.to=b.to∧x.out=b.out)) rfl rfl rfl (jl (j rfl)) rfl (fun i d=>zf (xg (show l 20=(.bool k) from(c rfl).1 (zo rfl d)) (fun s=>(show l 23=(.bool (decide (0≤x.out))) from(f rfl).1 (zo (zo rfl d) s))) rfl));rintro l Z a g ⟨c,f,j,_⟩
 exact zx (Gj:=true) (Bj:=decide (x.to=b.to∧x.out=b.out)) rfl rfl rfl (jl (j rfl)) rfl (fun i d=>zf (zb (show l 24=(.bool o) from(c rfl).1 (zo rfl d))));rintro l aa a g ⟨c,_⟩;exact zx (Gj:=e) (Bj:=k&&(decide (0≤x.out))) rfl rfl rfl (c rfl) rfl (fun i d=>z4h zes zdk (g 3 rfl) (t.mono a))
 rintro l ab a g ⟨c,f,_⟩;exact zx (Gj:=e) (Bj:=k&&(decide (0≤x.out))) rfl rfl rfl (f rfl) rfl (fun i d=>j3 (il ty3 rfl ((c rfl).1 (zo i d))) (fun _ _ h=>q9.1 h));rintro l ac a g ⟨c,_⟩
 exact zx (Gj:=e) (Bj:=k&&(decide (0≤x.out))) rfl rfl rfl (c rfl) rfl (fun i d=>z4h zeh zax (g 2 rfl) ((K.mono q).mono a));rintro l ad a g ⟨c,f,_⟩;exact zx (Gj:=e) (Bj:=k&&(decide (0≤x.out))) rfl rfl rfl (f rfl) rfl (fun i d=>j3 (il ty3 rfl ((c rfl).1 (zo i d))) (fun _ _ h=>q9.1 h))
 rintro l ae a g ⟨c,f,j,_⟩;exact zx (Gj:=e) (Bj:=k&&(decide (0≤x.out))) rfl rfl rfl (j rfl) rfl (fun i d=>zf (jc (show l 27=(vi x.out) from(c rfl).1 (zo i d)) (show l 29=(vi m.outputs) from(f rfl).1 (zo i d))));rintro l af a g ⟨c,f,j,_⟩
 exact zx (Gj:=true) (Bj:=decide (x.to=b.to∧x.out=b.out)) rfl rfl rfl (jl (j rfl)) rfl (fun i d=>zf (xg (show l 25=(.bool o) from(c rfl).1 (zo rfl d)) (fun s=>(show l 30=(.bool (decide (x.out<m.outputs))) from(f rfl).1 (zo (zo rfl d) s))) rfl));rintro l ag a g ⟨c,f,_⟩
 exact zi rfl rfl rfl (zf (og (c rfl) rfl (fun s=>(show l 31=(.bool L) from(f rfl).1 (zo rfl s)))));rintro l ah a g ⟨c,f,j,d3,d4,d5,d6,d7,d8,d9,aw,ax,ay,az,aA,aB,aC,aD,aE,aF,aG,aH,aI,aJ,aK,aL,aM,aN,aO,aP,_⟩;exact zi rfl rfl rfl (zf (mh (c rfl)))
 intro aQ C aR E aS F aT G aU aV aW aX aY aZ a0 a1 a2 a3 a4 a5 a6 a7 a8 a9 ba bb bc be bf bh bi bj bk bl bm bn bo bp bq br bs bt bv bw bx bz bA bB bC bD bE bF bG bH bI H bJ I;obtain rfl:=Eq.symm C;obtain rfl:=Eq.symm E;obtain rfl:=Eq.symm F;obtain rfl:=Eq.symm G;obtain rfl:=Eq.symm H;obtain rfl:=Eq.symm I
 refine ze (qd ?_);obtain rfl:=Option.some.inj n;refine qc (D:=[]) (J:=[]) (rs:=[.tmp 4]) (vs:=[(.bool B)]) ((y.trans q).trans u) rfl rfl ⟨rfl,trivial⟩ ?_;exact⟨rfl,rfl⟩
theorem zm5:Enters prog 58:=enters_of func58 rfl (by kernel_rfl)
theorem z8l{N:Nat}{R:RH}{x:Edge}{p0_:Mach}{a:Value}(c:PRep (mf false false) R a p0_){r:Bool}(b:z3f N x p0_=some r):CallP prog 57 #[(z3u x),a] R (fun v R'=>v=(.bool r)):=by
 refine qi (args:=[(z3u x),a]) func57 rfl rfl fun A=>?_;rw [z3f] at b;refine zq (z94 (T:=kEdge) rfl rfl (z2g.2 rfl) fun n o d i=>?_);refine zl (.bool false) (qw (ji rfl zaj rfl (c.mono d) fun p j=>?_));refine ji rfl zhx rfl i fun q k=>?_;obtain rfl:=z2g.1 k
 obtain⟨h,f,b⟩:=zt b;refine qz rfl zm5 rfl (zan j f) fun l m e g=>?_;obtain rfl:=g;refine zz (ow rfl) (zl (.bool (!h)) (ze (qd ?_)));obtain rfl:=Option.some.inj b;refine qc (D:=[]) (J:=[]) (rs:=[.tmp 3]) (vs:=[(.bool (!h))]) (d.trans e) rfl rfl ⟨rfl,trivial⟩ ?_;exact⟨rfl,rfl⟩
theorem zld:Enters prog 57:=enters_of func57 rfl (by kernel_rfl)
theorem z3b{N:Nat}{R:RH}{m:Mach}{q:Value}(F:VRep (mf false false) R q m){r:Int}(b:z0i N m=some r):CallP prog 44 #[q] R (fun v R'=>v=(vi r)):=by
 refine qi (args:=[q]) func44 rfl rfl fun A=>?_;rw [z0i] at b;refine zq (bg (T:=(mf false false)) rfl rfl rfl F fun E R3 k h5 l=>?_);refine zl (vi 0) (ze (zw (zq (zgy rfl (z1k z8n z5y rfl l) fun v6 h7=>?_))))
 refine jo rfl (z0r (nu ty3 rfl h7)) (jo rfl (oz rfl rfl) (jo (v:=(.bool (decide (16<m.inputs)))) rfl (zb rfl) (ja rfl rfl rfl rfl (fun c=>z1k zeh zax rfl l) fun al G=>?_)));refine ja rfl rfl rfl rfl (fun c=>qp (z0r (nu ty3 rfl (G.1 (zo rfl c))))) fun am H=>?_
 refine ja rfl rfl rfl rfl (fun c=>qp (oz (H.1 (zo rfl c)) rfl)) fun an I=>?_;refine jo rfl (og rfl rfl (fun n=>(I.1 (zo rfl n)))) (jo (v:=(.bool ((decide (16<m.inputs))||(decide (16<m.outputs))))) rfl (zb rfl) (ja rfl rfl rfl rfl (fun c=>z1k za2 z6b rfl l) fun ao K=>?_))
 refine ja rfl rfl rfl rfl (fun c=>nu zfn rfl (K.1 (zo rfl c))) fun ap L=>?_;refine ja rfl rfl rfl rfl (fun c=>qp (qo rfl underlying46 rfl (jr (L.1 (zo rfl c))))) fun aq M=>?_;refine ja rfl rfl rfl rfl (fun c=>qp (oz (M.1 (zo rfl c)) rfl)) fun ar O=>?_
 refine jo rfl (og rfl rfl (fun n=>(O.1 (zo rfl n)))) (ze (q8 rfl b (fun b=>?_) (fun b=>?_)));refine zq (zl (vi 3) (ze (qd ?_)));obtain rfl:=Option.some.inj b;refine qc (D:=[]) (J:=[]) (rs:=[.tmp 2]) (vs:=[(vi 3)]) k rfl rfl ⟨rfl,trivial⟩ ?_;exact⟨rfl,rfl⟩
 refine qb (zw (zq (zgy rfl (z1k z8n z5y rfl l) fun au P=>?_)));refine jo rfl (z0r (nu ty3 rfl P)) (jo rfl (jc rfl rfl) (jo (v:=(.bool (decide (m.inputs<1)))) rfl (zb rfl) (ja rfl rfl rfl rfl (fun c=>z1k zeh zax rfl l) fun av Q=>?_)))
 refine ja rfl rfl rfl rfl (fun c=>qp (z0r (nu ty3 rfl (Q.1 (zo rfl c))))) fun aw S=>?_;refine ja rfl rfl rfl rfl (fun c=>qp (jc (S.1 (zo rfl c)) rfl)) fun ay U=>?_
 refine jo rfl (og rfl rfl (fun n=>(U.1 (zo rfl n)))) (jo (v:=(.bool ((decide (m.inputs<1))||(decide (m.outputs<1))))) rfl (zb rfl) (ja rfl rfl rfl rfl (fun c=>z1k za2 z6b rfl l) fun az V=>?_));refine ja rfl rfl rfl rfl (fun c=>nu zfn rfl (V.1 (zo rfl c))) fun aA W=>?_
 refine ja rfl rfl rfl rfl (fun c=>qp (qo rfl underlying46 rfl (jr (W.1 (zo rfl c))))) fun aB X=>?_;refine ja rfl rfl rfl rfl (fun c=>qp (jc (X.1 (zo rfl c)) rfl)) fun aC Y=>?_;refine jo rfl (og rfl rfl (fun n=>(Y.1 (zo rfl n)))) (ze (q8 rfl b (fun b=>?_) (fun b=>?_)))
 refine zq (zl (vi 1) (ze (qd ?_)));obtain rfl:=Option.some.inj b;refine qc (D:=[]) (J:=[]) (rs:=[.tmp 2]) (vs:=[(vi 1)]) k rfl rfl ⟨rfl,trivial⟩ ?_;exact⟨rfl,rfl⟩;refine qb ?_;obtain⟨s,a,b⟩:=zt b;refine ql (γ:=Unit) (rs [2,3,4,5,33,51]) (fun g=>[]) (fun g=>[]++A) (fun g R=>s=Ex.go g∧True) ?_ ?_
 refine zq (si rfl za2 z6b rfl l fun aD Z=>?_);refine ji rfl zfn rfl Z fun aE t=>?_
 refine zz (qo rfl underlying46 rfl (jr t)) (zh (vi 0) (ze (qa (j4 (γ:=Nat×Int) (rs [2,3,4,5,36,51]) (fun g=>[(36,(vi g.2))]) (fun g=>[]++A) (fun g R=>z0g N m g.1 g.2=some s∧True) (fun g=>g.1) (N,0) prm ⟨a,trivial⟩ ?_))));clear a;rintro⟨o,e⟩ ah aF d ⟨a,_⟩;rcases o with _|o
 exact qj a;replace a:z0g N m (o+1) e=some s:=a;rw [z0g] at a;refine zq (zz (jc rfl rfl) (ze (zw (q8 rfl a (fun a=>?_) (fun a=>?_)))));refine qb (zw (qa (zq ?_)));obtain⟨u,a⟩:=zg a
 refine ug (i:=e.toNat) rfl zl6 rfl (jr (t.mono d)) (zk rfl u.1) (zy u) fun aG aa=>?_;refine ji rfl zjs rfl aa fun p w=>?_;refine zl p (qw (jo (v:=p) rfl (zb rfl) (jo rfl (qo rfl underlying45 rfl (jr w)) (zgy rfl (z1k z8n z5y rfl (l.mono d)) fun aH ab=>?_))))
 refine jo rfl (z0r (nu ty3 rfl ab)) (jo rfl (jd rfl rfl) (jo (v:=(.bool (decide ((↑(ix m.rows e).length:Int)≠m.inputs)))) rfl (zb rfl) (ja rfl rfl rfl rfl (fun c=>qp (v:=p) (zb rfl)) fun aI ac=>?_)))
 refine ja rfl rfl rfl rfl (fun c=>qp (v:=(.func (.func 57) #[] #[E])) (ax (fs:=[]) (cs:=[E]) rfl rfl)) fun aJ ad=>?_;obtain⟨ae,af,a⟩:=zt a
 refine bz rfl rfl rfl rfl (fun c=>kw (vs:=[p,(.func (.func 57) #[] #[E])]) zlw (z2k (ac.1 (zo rfl c)) (z2k (ad.1 (zo rfl c)) rfl)) ((by have ag:=(dw af (zo rfl c));exact z3e w (z90 (cs:=[E]) zld fun R1 hq z0 u0 y k0 hy=>by obtain rfl:=z2g.1 k0;exact CallP.mono (z8l ((l.mono d).mono hq) hy) fun v R2 _ hv=>ai.2 hv) ag)) (fun _ _ h=>h)) fun x z f j=>?_
 replace j:phG (true&&((decide ((↑(ix m.rows e).length:Int)≠m.inputs))==false)) (phX (.bool (ae.getD default))) x z:=j;refine jo rfl (og rfl rfl (fun n=>(j.1 (zo rfl n)))) (ze (q8 rfl a (fun a=>?_) (fun a=>?_)));refine zq (zl (vi 1) (ze (qd ?_)));replace b:=lm a b;obtain rfl:=Option.some.inj b
 refine qc (D:=[]) (J:=[]) (rs:=[.tmp 2]) (vs:=[(vi 1)]) ((k.trans d).trans f) rfl rfl ⟨rfl,trivial⟩ ?_;exact⟨rfl,rfl⟩;refine qb (zu ?_);obtain⟨B,a⟩:=zg a;refine zz (qm rfl rfl B) (zh (vi (e+1)) (ze ?_));exact⟨dkt,f,jg,(o,e+1),Nat.lt_succ_self _,⟨rfl,trivial⟩,prm,a,trivial⟩
 refine jb ?_;exact⟨dkt,d,jg,(),trivial,prm,(Option.some.inj a).symm,trivial⟩;rintro aO aj aP C ⟨rfl,_⟩;replace b:=z0o b;refine zq (zl (vi 0) (ze (qd ?_)));obtain rfl:=Option.some.inj b;refine qc (D:=[]) (J:=[]) (rs:=[.tmp 2]) (vs:=[(vi 0)]) (k.trans C) rfl rfl ⟨rfl,trivial⟩ ?_;exact⟨rfl,rfl⟩
theorem zjx:Enters prog 44:=enters_of func44 rfl (by kernel_rfl)
theorem z0h: ∀ w,(sizeOf 27).run prog w= .ok 1 w:=fun w=>by kernel_rfl
theorem ag3: ∀ w,(isAgg 3).run prog w= .ok false w:=fun w=>by kernel_rfl
theorem lc:SlOk prog 33 3 (zm .i64):=⟨underlying33,ty3⟩
theorem z2w{N:Nat}{R:RH}{s:(List Int)}{c:Value}(k:VRep (tSl false (zm .i64)) R c s){f:Int→Option Bool}{e:Value}(n:FOk1 prog R e (zm .i64) z2r f){r:Int}(b:z0e N s f=some r):CallP prog 48 #[c,e] R (fun v R'=>v=(vi r)):=by
 refine qi (args:=[c,e]) func48 rfl rfl fun A=>?_;rw [z0e] at b;refine zq (zl (vi 0) (ze ?_));obtain⟨o,a,b⟩:=zt b;refine ql (γ:=Unit) (rs [4,19]) (fun g=>[]) (fun g=>[]++A) (fun g R=>o=Ex.go g∧True) ?_ ?_
 refine zq (zh c (zz (qo rfl underlying33 rfl (jr k)) (zh (vi 0) (ze (qa (j4 (γ:=Nat×Int) (rs [4,6,8,19]) (fun g=>[(8,(vi g.2))]) (fun g=>[]++A) (fun g R=>ak N s f g.1 g.2=some o∧True) (fun g=>g.1) (N,0) prm ⟨a,trivial⟩ ?_))))));clear a;rintro⟨m,d⟩ y H h ⟨a,_⟩;rcases m with _|m
 exact qj a;replace a:ak N s f (m+1) d=some o:=a;rw [ak] at a;refine zq (zz (jc rfl rfl) (ze (zw (q8 rfl a (fun a=>?_) (fun a=>?_)))));refine qb (zw (qa (zq (zh (vi d) (zl (vi d) (qw (zh e (zh c (zh (vi d) ?_)))))))))
 obtain⟨l,a⟩:=zg a;refine ug (i:=d.toNat) rfl lc rfl (jr (k.mono h)) (zk rfl l.1) (zy l) fun z p=>?_;refine ji rfl ty3 rfl p fun B q=>?_;obtain rfl:=q9.1 q;obtain⟨C,t,a⟩:=zt a;refine z6c rfl rfl rfl ((n.mono h) _ (RH.le.refl _) (ix s d) _ _ (q9.2 rfl) t) fun E F j u=>?_
 obtain rfl:=ai.1 u;refine ze (q8 rfl a (fun a=>?_) (fun a=>?_));refine zq (zh (vi d) (zl (vi d) (ze (qd ?_))));replace b:=lm a b;obtain rfl:=Option.some.inj b;refine qc (D:=[]) (J:=[]) (rs:=[.tmp 4]) (vs:=[(vi d)]) (h.trans j) rfl rfl ⟨rfl,trivial⟩ ?_;exact⟨rfl,rfl⟩
 refine qb (zu ?_);obtain⟨w,a⟩:=zg a;refine zz (qm rfl rfl w) (zh (vi (d+1)) (ze ?_));exact⟨dkt,j,jg,(m,d+1),Nat.lt_succ_self _,⟨rfl,trivial⟩,prm,a,trivial⟩;refine jb ?_;exact⟨dkt,h,jg,(),trivial,prm,(Option.some.inj a).symm,trivial⟩;rintro I G K x ⟨rfl,_⟩;replace b:=z0o b
 refine zq (zl (vi (-1)) (ze (qd ?_)));obtain rfl:=Option.some.inj b;refine qc (D:=[]) (J:=[]) (rs:=[.tmp 4]) (vs:=[(vi (-1))]) x rfl rfl ⟨rfl,trivial⟩ ?_;exact⟨rfl,rfl⟩
theorem zkl:Enters prog 48:=enters_of func48 rfl (by kernel_rfl)
theorem z1m{N:Nat}{R:RH}{s:(List Int)}{a:Value}(d:VRep (tSl false (zm .i64)) R a s){f:Int→Option Bool}{b:Value}(e:FOk1 prog R b (zm .i64) z2r f){r:Bool}(c:fu N s f=some r):CallP prog 30 #[a,b] R (fun v R'=>v=(.bool r)):=by
 refine qi (args:=[a,b]) func30 rfl rfl fun A=>?_;rw [fu] at c;refine zq (zl (.bool false) (qw (zh a (zh b ?_))));obtain⟨h,i,c⟩:=zt c;refine qz rfl zkl rfl (z2w d e i) fun k l g j=>?_;obtain rfl:=j
 refine zz (mr rfl rfl) (zl (.bool (decide (0≤h))) (ze (qd ?_)));obtain rfl:=Option.some.inj c;refine qc (D:=[]) (J:=[]) (rs:=[.tmp 4]) (vs:=[(.bool (decide (0≤h)))]) g rfl rfl ⟨rfl,trivial⟩ ?_;exact⟨rfl,rfl⟩
theorem zl0:Enters prog 30:=enters_of func30 rfl (by kernel_rfl)
theorem zaq{N:Nat}{R:RH}{c:Int}{p0_:Int}{a:Value}(b:PRep (zm .i64) R a p0_){r:Bool}(d:z5m N c p0_=some r):CallP prog 97 #[(vi c),a] R (fun v R'=>v=(.bool r)):=by
 refine qi (args:=[(vi c),a]) func97 rfl rfl fun A=>?_;rw [z5m] at d;refine zq (zl (.bool false) (qw (jo (v:=(vi c)) rfl (zb rfl) (jo rfl (jc rfl rfl) (jo (v:=(.bool (decide (c<0)))) rfl (zb rfl) (ja rfl rfl rfl rfl (fun e=>qp (v:=(vi c)) (zb rfl)) fun k h=>?_))))))
 refine ja rfl rfl rfl rfl (fun e=>qp (z0r (nu ty3 rfl b))) fun l f=>?_;refine ja rfl rfl rfl rfl (fun e=>qp (mr (h.1 (zo rfl e)) (f.1 (zo rfl e)))) fun i g=>?_;refine jo rfl (og rfl rfl (fun j=>(g.1 (zo rfl j)))) (jo (v:=(.bool ((decide (c<0))||(decide (p0_≤c))))) rfl (mh rfl) (ze (qd ?_)))
 obtain rfl:=Option.some.inj d;refine qc (D:=[]) (J:=[]) (rs:=[.tmp 3]) (vs:=[(.bool ((decide (c<0))||(decide (p0_≤c))))]) (RH.le.refl _) rfl rfl ⟨rfl,trivial⟩ ?_;exact⟨rfl,rfl⟩
theorem zmg:Enters prog 97:=enters_of func97 rfl (by kernel_rfl)
theorem z8g{N:Nat}{R:RH}{x:(List Int)}{b:Value}(e:VRep (tSl false (zm .i64)) R b x){inputs:Int}{r:Int}(a:z4x N x inputs=some r):CallP prog 78 #[b,(vi inputs)] R (fun v R'=>v=(vi r)):=by
 refine qi (args:=[b,(vi inputs)]) func78 rfl rfl fun A=>?_;rw [z4x] at a;refine zq (z94 (T:=(zm .i64)) rfl rfl (q9.2 rfl) fun i L c j=>?_)
 refine zl (vi 0) (ze (zw (zq (jo rfl (z0r (nu ty3 rfl j)) (jo rfl (oz rfl rfl) (jo (v:=(.bool (decide (16<inputs)))) rfl (zb rfl) (ja rfl rfl rfl rfl (fun d=>qp (v:=b) (zb rfl)) fun z k=>?_)))))))
 refine ja rfl rfl rfl rfl (fun d=>qp (qo rfl underlying33 (k.1 (zo rfl d)) (jr (e.mono c)))) fun B l=>?_;refine ja rfl rfl rfl rfl (fun d=>qp (oz (l.1 (zo rfl d)) rfl)) fun C m=>?_;refine jo rfl (og rfl rfl (fun n=>(m.1 (zo rfl n)))) (ze (q8 rfl a (fun a=>?_) (fun a=>?_)))
 refine zq (zl (vi 3) (ze (qd ?_)));obtain rfl:=Option.some.inj a;refine qc (D:=[]) (J:=[]) (rs:=[.tmp 4]) (vs:=[(vi 3)]) c rfl rfl ⟨rfl,trivial⟩ ?_;exact⟨rfl,rfl⟩
 refine qb (zw (zq (jo rfl (z0r (nu ty3 rfl j)) (jo rfl (jc rfl rfl) (jo (v:=(.bool (decide (inputs<1)))) rfl (zb rfl) (ja rfl rfl rfl rfl (fun d=>qp (v:=b) (zb rfl)) fun E o=>?_))))))
 refine ja rfl rfl rfl rfl (fun d=>qp (v:=(.func (.func 97) #[] #[i])) (ax (fs:=[]) (cs:=[i]) rfl rfl)) fun F p=>?_;obtain⟨q,s,a⟩:=zt a
 refine bz rfl rfl rfl rfl (fun d=>kw (vs:=[b,(.func (.func 97) #[] #[i])]) zl0 (z2k (o.1 (zo rfl d)) (z2k (p.1 (zo rfl d)) rfl)) ((by have t:=(dw s (zo rfl d));exact z1m (e.mono c) (z90 (cs:=[i]) zmg fun M G O P y H I=>by obtain rfl:=q9.1 H;exact CallP.mono (zaq (j.mono G) I) fun v Q _ K=>ai.2 K) t)) (fun _ _ h=>h)) fun u w f g=>?_
 replace g:phG (true&&((decide (inputs<1))==false)) (phX (.bool (q.getD default))) u w:=g;refine jo rfl (og rfl rfl (fun n=>(g.1 (zo rfl n)))) (ze (q8 rfl a (fun a=>?_) (fun a=>?_)));refine zq (zl (vi 1) (ze (qd ?_)));obtain rfl:=Option.some.inj a
 refine qc (D:=[]) (J:=[]) (rs:=[.tmp 4]) (vs:=[(vi 1)]) (c.trans f) rfl rfl ⟨rfl,trivial⟩ ?_;exact⟨rfl,rfl⟩;refine qb (zq (zl (vi 0) (ze (qd ?_))));obtain rfl:=Option.some.inj a;refine qc (D:=[]) (J:=[]) (rs:=[.tmp 4]) (vs:=[(vi 0)]) (c.trans f) rfl rfl ⟨rfl,trivial⟩ ?_;exact⟨rfl,rfl⟩
theorem zki:Enters prog 78:=enters_of func78 rfl (by kernel_rfl)
theorem zbv{N:Nat}{R:RH}{p:(List (List Int))}{c:Value}(d:VRep (tSl false (tSl false (zm .i64))) R c p){inputs:Int}{r:Int}(b:z7i N p inputs=some r):CallP prog 59 #[c,(vi inputs)] R (fun v R'=>v=(vi r)):=by
 refine qi (args:=[c,(vi inputs)]) func59 rfl rfl fun A=>?_;rw [z7i] at b
 refine zq (zl (vi 0) (ze (zw (zq (jo (v:=(vi inputs)) rfl (zb rfl) (jo rfl (oz rfl rfl) (jo (v:=(.bool (decide (16<inputs)))) rfl (zb rfl) (ja rfl rfl rfl rfl (fun q=>qp (v:=c) (zb rfl)) fun P B=>?_))))))))
 refine ja rfl rfl rfl rfl (fun q=>qp (qo rfl underlying25 (B.1 (zo rfl q)) (jr d))) fun Q s=>?_;refine ja rfl rfl rfl rfl (fun q=>qp (oz (s.1 (zo rfl q)) rfl)) fun C t=>?_;refine jo rfl (og rfl rfl (fun E=>(t.1 (zo rfl E)))) (ze (q8 rfl b (fun b=>?_) (fun b=>?_)))
 refine zq (zl (vi 3) (ze (qd ?_)));obtain rfl:=Option.some.inj b;refine qc (D:=[]) (J:=[]) (rs:=[.tmp 4]) (vs:=[(vi 3)]) (RH.le.refl _) rfl rfl ⟨rfl,trivial⟩ ?_;exact⟨rfl,rfl⟩;refine qb (zw (zq (zh (vi inputs) (zz (jc rfl rfl) (ze (q8 rfl b (fun b=>?_) (fun b=>?_)))))))
 refine zq (zl (vi 1) (ze (qd ?_)));obtain rfl:=Option.some.inj b;refine qc (D:=[]) (J:=[]) (rs:=[.tmp 4]) (vs:=[(vi 1)]) (RH.le.refl _) rfl rfl ⟨rfl,trivial⟩ ?_;exact⟨rfl,rfl⟩;refine qb ?_;obtain⟨l,a,b⟩:=zt b
 refine ql (γ:=Unit) (rs [4,5,6,8,17,30]) (fun g=>[]) (fun g=>[]++A) (fun g R=>l=Ex.go g∧True) ?_ ?_
 refine zq (zh c (zz (qo rfl underlying25 rfl (jr d)) (zh (vi 0) (ze (qa (j4 (γ:=Nat×Int) (rs [4,5,6,8,19,30]) (fun g=>[(19,(vi g.2))]) (fun g=>[]++A) (fun g R=>z1f N p inputs g.1 g.2=some l∧True) (fun g=>g.1) (N,0) prm ⟨a,trivial⟩ ?_))))));clear a;rintro⟨h,j⟩ F G e ⟨a,_⟩
 rcases h with _|h;exact qj a;replace a:z1f N p inputs (h+1) j=some l:=a;rw [z1f] at a;refine zq (zz (jc rfl rfl) (ze (zw (q8 rfl a (fun a=>?_) (fun a=>?_)))));refine qb (zw (qa (zq ?_)));obtain⟨m,a⟩:=zg a
 refine ug (i:=j.toNat) rfl z7n rfl (jr (d.mono e)) (zk rfl m.1) (zy m) fun H u=>?_;refine ji rfl z6z rfl u fun n w=>?_;refine zl n (qw (zh n (zh (vi inputs) ?_)));obtain⟨f,x,a⟩:=zt a;refine qz rfl zki rfl (z8g w x) fun I K k y=>?_;obtain rfl:=y
 refine zl (vi f) (qw (zh (vi f) (zz (jd rfl rfl) (ze (q8 rfl a (fun a=>?_) (fun a=>?_))))));refine zq (zh (vi f) (zl (vi f) (ze (qd ?_))));replace b:=lm a b;obtain rfl:=Option.some.inj b
 refine qc (D:=[]) (J:=[]) (rs:=[.tmp 4]) (vs:=[(vi f)]) (e.trans k) rfl rfl ⟨rfl,trivial⟩ ?_;exact⟨rfl,rfl⟩;refine qb (zu ?_);obtain⟨z,a⟩:=zg a;refine zz (qm rfl rfl z) (zh (vi (j+1)) (ze ?_));exact⟨dkt,k,jg,(h,j+1),Nat.lt_succ_self _,⟨rfl,trivial⟩,prm,a,trivial⟩;refine jb ?_
 exact⟨dkt,e,jg,(),trivial,prm,(Option.some.inj a).symm,trivial⟩;rintro L M O o ⟨rfl,_⟩;replace b:=z0o b;refine zq (zl (vi 0) (ze (qd ?_)));obtain rfl:=Option.some.inj b;refine qc (D:=[]) (J:=[]) (rs:=[.tmp 4]) (vs:=[(vi 0)]) o rfl rfl ⟨rfl,trivial⟩ ?_;exact⟨rfl,rfl⟩
theorem zlg:Enters prog 59:=enters_of func59 rfl (by kernel_rfl)
theorem z6u{N:Nat}{R:RH}{x:Int}{r:Bool}(a:cmp_isNaN_int N x=some r):CallP prog 87 #[(vi x)] R (fun v R'=>v=(.bool r)):=by
 refine qi (args:=[(vi x)]) func87 rfl rfl fun A=>?_;rw [cmp_isNaN_int] at a;refine zq (zl (.bool false) (qw (zh (vi x) (zh (vi x) (zz (jd rfl rfl) (zl (.bool (decide (x≠x))) (ze (qd ?_))))))));obtain rfl:=Option.some.inj a
 refine qc (D:=[]) (J:=[]) (rs:=[.tmp 2]) (vs:=[(.bool (decide (x≠x)))]) (RH.le.refl _) rfl rfl ⟨rfl,trivial⟩ ?_;exact⟨rfl,rfl⟩
theorem zl3:Enters prog 87:=enters_of func87 rfl (by kernel_rfl)
theorem z5d{N:Nat}{R:RH}{x:Int}{y:Int}{r:Int}(a:cmp_Compare_int N x y=some r):CallP prog 99 #[(vi x),(vi y)] R (fun v R'=>v=(vi r)):=by
 refine qi (args:=[(vi x),(vi y)]) func99 rfl rfl fun A=>?_;rw [cmp_Compare_int] at a;refine zq (zl (vi 0) (qw (zh (vi x) ?_)));obtain⟨f,g,a⟩:=zt a;refine qz rfl zl3 rfl (z6u  g) fun k l c h=>?_;obtain rfl:=h;refine zl (.bool f) (qw (zh (vi y) ?_))
 obtain⟨d,i,a⟩:=zt a;refine qz rfl zl3 rfl (z6u  i) fun m j b e=>?_;obtain rfl:=e;refine zl (.bool d) (ze (zw (zq (zh (.bool f) (ze (q8 rfl a (fun a=>?_) (fun a=>?_)))))));refine zw (zq (zh (.bool d) (ze (q8 rfl a (fun a=>?_) (fun a=>?_)))))
 refine zq (zl (vi 0) (ze (qd ?_)));obtain rfl:=Option.some.inj a;refine qc (D:=[]) (J:=[]) (rs:=[.tmp 4]) (vs:=[(vi 0)]) (c.trans b) rfl rfl ⟨rfl,trivial⟩ ?_;exact⟨rfl,rfl⟩;refine qb (zq (zl (vi (-1)) (ze (qd ?_))));obtain rfl:=Option.some.inj a
 refine qc (D:=[]) (J:=[]) (rs:=[.tmp 4]) (vs:=[(vi (-1))]) (c.trans b) rfl rfl ⟨rfl,trivial⟩ ?_;exact⟨rfl,rfl⟩;refine qb (zw (zq (zh (.bool d) (ze (q8 rfl a (fun a=>?_) (fun a=>?_))))));refine zq (zl (vi 1) (ze (qd ?_)));obtain rfl:=Option.some.inj a
 refine qc (D:=[]) (J:=[]) (rs:=[.tmp 4]) (vs:=[(vi 1)]) (c.trans b) rfl rfl ⟨rfl,trivial⟩ ?_;exact⟨rfl,rfl⟩;refine qb (zw (zq (zh (vi x) (zh (vi y) (zz (jc rfl rfl) (ze (q8 rfl a (fun a=>?_) (fun a=>?_))))))));refine zq (zl (vi (-1)) (ze (qd ?_)));obtain rfl:=Option.some.inj a
 refine qc (D:=[]) (J:=[]) (rs:=[.tmp 4]) (vs:=[(vi (-1))]) (c.trans b) rfl rfl ⟨rfl,trivial⟩ ?_;exact⟨rfl,rfl⟩;refine qb (zw (zq (zh (vi x) (zh (vi y) (zz (oz rfl rfl) (ze (q8 rfl a (fun a=>?_) (fun a=>?_))))))));refine zq (zl (vi 1) (ze (qd ?_)));obtain rfl:=Option.some.inj a
 refine qc (D:=[]) (J:=[]) (rs:=[.tmp 4]) (vs:=[(vi 1)]) (c.trans b) rfl rfl ⟨rfl,trivial⟩ ?_;exact⟨rfl,rfl⟩;refine qb (zq (zl (vi 0) (ze (qd ?_))));obtain rfl:=Option.some.inj a;refine qc (D:=[]) (J:=[]) (rs:=[.tmp 4]) (vs:=[(vi 0)]) (c.trans b) rfl rfl ⟨rfl,trivial⟩ ?_;exact⟨rfl,rfl⟩
theorem zke:Enters prog 99:=enters_of func99 rfl (by kernel_rfl)
theorem z7k{N:Nat}{R:RH}{s1_:(List Int)}{d:Value}(e:VRep (tSl false (zm .i64)) R d s1_){s2_:(List Int)}{c:Value}(f:VRep (tSl false (zm .i64)) R c s2_){r:Int}(b:z1y N s1_ s2_=some r):CallP prog 100 #[d,c] R (fun v R'=>v=(vi r)):=by
 refine qi (args:=[d,c]) func100 rfl rfl fun A=>?_;rw [z1y] at b;refine zq (zl (vi 0) (ze ?_));obtain⟨q,a,b⟩:=zt b;refine ql (γ:=Unit) (rs [4,31]) (fun g=>[]) (fun g=>[]++A) (fun g R=>q=Ex.go g∧True) ?_ ?_
 refine zq (zh d (zz (qo rfl underlying33 rfl (jr e)) (zh (vi 0) (ze (qa (j4 (γ:=Nat×Int) (rs [4,9,11,31]) (fun g=>[(11,(vi g.2))]) (fun g=>[]++A) (fun g R=>rf N s1_ s2_ g.1 g.2=some q∧True) (fun g=>g.1) (N,0) prm ⟨a,trivial⟩ ?_))))));clear a;rintro⟨p,h⟩ B L j ⟨a,_⟩
 rcases p with _|p;exact qj a;replace a:rf N s1_ s2_ (p+1) h=some q:=a;rw [rf] at a;refine zq (zz (jc rfl rfl) (ze (zw (q8 rfl a (fun a=>?_) (fun a=>?_)))));refine qb (zw (qa (zq (zh (vi h) ?_))));obtain⟨n,a⟩:=zg a
 refine ug (i:=h.toNat) rfl lc rfl (jr (e.mono j)) (zk rfl n.1) (zy n) fun C s=>?_;refine ji rfl ty3 rfl s fun E t=>?_;obtain rfl:=q9.1 t
 refine zl (vi h) (zl (vi (ix s1_ h)) (ze (zw (zq (zh (vi h) (zh c (zz (qo rfl underlying33 rfl (jr (f.mono j))) (zz (mr rfl rfl) (ze (q8 rfl a (fun a=>?_) (fun a=>?_)))))))))));refine zq (zl (vi 1) (ze (qd ?_)));replace b:=lm a b;obtain rfl:=Option.some.inj b
 refine qc (D:=[]) (J:=[]) (rs:=[.tmp 4]) (vs:=[(vi 1)]) j rfl rfl ⟨rfl,trivial⟩ ?_;exact⟨rfl,rfl⟩;refine qb (zq (zh c (zh (vi h) ?_)));obtain⟨o,a⟩:=zg a;refine ug (i:=h.toNat) rfl lc rfl (jr (f.mono j)) (zk rfl o.1) (zy o) fun F u=>?_;refine ji rfl ty3 rfl u fun G w=>?_
 obtain rfl:=q9.1 w;refine zl (vi (ix s2_ h)) (qw (zh (vi (ix s1_ h)) (zh (vi (ix s2_ h)) ?_)));obtain⟨k,x,a⟩:=zt a;refine qz rfl zke rfl (z5d  x) fun H I m y=>?_;obtain rfl:=y
 refine zl (vi k) (qw (zh (vi k) (zz (jd rfl rfl) (ze (q8 rfl a (fun a=>?_) (fun a=>?_))))));refine zq (zh (vi k) (zl (vi k) (ze (qd ?_))));replace b:=lm a b;obtain rfl:=Option.some.inj b
 refine qc (D:=[]) (J:=[]) (rs:=[.tmp 4]) (vs:=[(vi k)]) (j.trans m) rfl rfl ⟨rfl,trivial⟩ ?_;exact⟨rfl,rfl⟩;refine qb (zu ?_);obtain⟨z,a⟩:=zg a;refine zz (qm rfl rfl z) (zh (vi (h+1)) (ze ?_));exact⟨dkt,m,jg,(p,h+1),Nat.lt_succ_self _,⟨rfl,trivial⟩,prm,a,trivial⟩;refine jb ?_
 exact⟨dkt,j,jg,(),trivial,prm,(Option.some.inj a).symm,trivial⟩;rintro M K O l ⟨rfl,_⟩;replace b:=z0o b;refine zw (zq (zh d (zz (qo rfl underlying33 rfl (jr (e.mono l))) (zh c (zz (qo rfl underlying33 rfl (jr (f.mono l))) (zz (jc rfl rfl) (ze (q8 rfl b (fun b=>?_) (fun b=>?_)))))))))
 refine zq (zl (vi (-1)) (ze (qd ?_)));obtain rfl:=Option.some.inj b;refine qc (D:=[]) (J:=[]) (rs:=[.tmp 4]) (vs:=[(vi (-1))]) l rfl rfl ⟨rfl,trivial⟩ ?_;exact⟨rfl,rfl⟩;refine qb (zq (zl (vi 0) (ze (qd ?_))));obtain rfl:=Option.some.inj b
 refine qc (D:=[]) (J:=[]) (rs:=[.tmp 4]) (vs:=[(vi 0)]) l rfl rfl ⟨rfl,trivial⟩ ?_;exact⟨rfl,rfl⟩
theorem zkq:Enters prog 100:=enters_of func100 rfl (by kernel_rfl)
theorem zcq{N:Nat}{R:RH}{vals:(List Int)}{b:Value}(d:VRep (tSl false (zm .i64)) R b vals){r:Int}(c:z8s N vals=some r):CallP prog 98 #[b] R (fun v R'=>v=(vi r)):=by
 refine qi (args:=[b]) func98 rfl rfl fun A=>?_;rw [z8s] at c;refine zq (zl (vi 0) (qw (zl (vi 0) (ze ?_))));obtain⟨k,a,c⟩:=zt c;refine ql (γ:=Unit) (rs [2,3,5,17]) (fun g=>[]) (fun g=>[]++A) (fun g R=>k=Ex.go g∧True) ?_ ?_
 refine zq (zh b (zz (qo rfl underlying33 rfl (jr d)) (zh (vi 0) (ze (qa (j4 (γ:=Nat×Int) (rs [2,3,5,6,8,17]) (fun g=>[(8,(vi g.2))]) (fun g=>[]++A) (fun g R=>z1r N vals g.1 g.2=some k∧True) (fun g=>g.1) (N,0) prm ⟨a,trivial⟩ ?_))))));clear a;rintro⟨j,e⟩ p u f ⟨a,_⟩
 rcases j with _|j;exact qj a;replace a:z1r N vals (j+1) e=some k:=a;rw [z1r] at a;refine zq (zz (jc rfl rfl) (ze (zw (q8 rfl a (fun a=>?_) (fun a=>?_)))));refine qb (zw (qa (zq ?_)));obtain⟨h,a⟩:=zg a
 refine ug (i:=e.toNat) rfl lc rfl (jr (d.mono f)) (zk rfl h.1) (zy h) fun q l=>?_;refine ji rfl ty3 rfl l fun s m=>?_;obtain rfl:=q9.1 m;refine zl (vi (ix vals e)) (qw (zh (vi (ix vals e)) (zh (vi 0) (zz (jd rfl rfl) (ze (q8 rfl a (fun a=>?_) (fun a=>?_)))))))
 refine zq (zh (vi (ix vals e)) (zl (vi (ix vals e)) (ze (qd ?_))));replace c:=lm a c;obtain rfl:=Option.some.inj c;refine qc (D:=[]) (J:=[]) (rs:=[.tmp 2]) (vs:=[(vi (ix vals e))]) f rfl rfl ⟨rfl,trivial⟩ ?_;exact⟨rfl,rfl⟩;refine qb (zu ?_);obtain⟨n,a⟩:=zg a
 refine zz (qm rfl rfl n) (zh (vi (e+1)) (ze ?_));exact⟨dkt,(RH.le.refl _),jg,(j,e+1),Nat.lt_succ_self _,⟨rfl,trivial⟩,prm,a,trivial⟩;refine jb ?_;exact⟨dkt,f,jg,(),trivial,prm,(Option.some.inj a).symm,trivial⟩;rintro w t x o ⟨rfl,_⟩;replace c:=z0o c
 refine zq (zh (vi 0) (zl (vi 0) (ze (qd ?_))));obtain rfl:=Option.some.inj c;refine qc (D:=[]) (J:=[]) (rs:=[.tmp 2]) (vs:=[(vi 0)]) o rfl rfl ⟨rfl,trivial⟩ ?_;exact⟨rfl,rfl⟩
theorem zlr:Enters prog 98:=enters_of func98 rfl (by kernel_rfl)
theorem zat{N:Nat}{R:RH}{a:(List Int)}{d:Value}(i:VRep (tSl false (zm .i64)) R d a){b:(List Int)}{e:Value}(j:VRep (tSl false (zm .i64)) R e b){r:Int}(c:z5n N a b=some r):CallP prog 79 #[d,e] R (fun v R'=>v=(vi r)):=by
 refine qi (args:=[d,e]) func79 rfl rfl fun A=>?_;rw [z5n] at c;refine zq (zl (vi 0) (qw (zh d (zz (qo rfl underlying33 rfl (jr i)) (zh e (zz (qo rfl underlying33 rfl (jr j)) ?_))))));obtain⟨o,z,c⟩:=zt c;refine qz rfl zke rfl (z5d  z) fun H I f C=>?_
 obtain rfl:=C;refine zh d (zh e ?_);obtain⟨p,E,c⟩:=zt c;refine qz rfl zkq rfl (z7k (i.mono f) (j.mono f) E) fun K F k q=>?_;obtain rfl:=q
 refine vg (T:=(zm .i64)) (X:=([o,p]:List Int)) (ps:=[(0,(vi o)),(1,(vi p))]) (css:=[[(vi o)],[(vi p)]]) rfl underlying33 zo3 rfl rfl (qx ⟨rfl,rfl,trivial⟩) rfl rfl (by decide) fun l s g u=>?_;obtain⟨h,w,c⟩:=zt c
 refine z4g (cs:=[]) (vs:=[l]) (φ:=fun v=>v=(vi h)) rfl zlr rfl rfl (fun x m n=>zcq (Sub.v (B:=(tSl false (zm .i64))) (j5 Sub.refl (fun _=>rfl)) (ou (t:=true) ((z7j 0 rfl u m n):VRep (yx (zm .i64)) x l ([o,p]:List Int)) g)) w) fun G y=>?_;obtain rfl:=y
 refine zl (vi h) (ze (qd ?_));obtain rfl:=Option.some.inj c;refine qc (D:=[]) (J:=[s]) (rs:=[.tmp 4]) (vs:=[(vi h)]) (f.trans k) rfl rfl ⟨rfl,trivial⟩ ?_;exact⟨rfl,rfl⟩
theorem zm2:Enters prog 79:=enters_of func79 rfl (by kernel_rfl)
theorem zby{N:Nat}{R:RH}{n:(List (List Int))}{c:Value}(k:VRep (tSl false (tSl false (zm .i64))) R c n){r:Bool}(d:z7c N n=some r):CallP prog 60 #[c] R (fun v R'=>v=(.bool r)):=by
 refine qi (args:=[c]) func60 rfl rfl fun A=>?_;rw [z7c] at d;refine zq (zl (.bool false) (ze ?_));obtain⟨w,a,d⟩:=zt d;refine ql (γ:=Unit) (rs [2,21]) (fun g=>[]) (fun g=>[]++A) (fun g R=>w=Ex.go g∧True) ?_ ?_
 refine zq (zl (vi 1) (ze (qa (j4 (γ:=Nat×Int) (rs [2,21]) (fun g=>[(3,(vi g.2))]) (fun g=>[]++A) (fun g R=>z1g N n g.1 g.2=some w∧True) (fun g=>g.1) (N,1) prm ⟨a,trivial⟩ ?_))));clear a;rintro⟨u,e⟩ O R7 m ⟨a,_⟩;rcases u with _|u;exact qj a
 replace a:z1g N n (u+1) e=some w:=a;rw [z1g] at a;refine zw (zq (zh (vi e) (zh c (zz (qo rfl underlying25 rfl (jr (k.mono m))) (zz (jc rfl rfl) (ze (q8 rfl a (fun a=>?_) (fun a=>?_))))))));refine qb (zw (qa (zw ?_)));obtain⟨x,p,q,a⟩:=zgr a;obtain⟨s,y,a⟩:=zt a
 refine bu 11 [] [phX c,phX (vi e),phX (vi (e-1)),phP (tSl false (zm .i64)) (ix n (e-1)),phR (tSl false (zm .i64)) (ix n (e-1)),phX c,phX (vi e),phP (tSl false (zm .i64)) (ix n e),phR (tSl false (zm .i64)) (ix n e),phX (vi s),phX (.bool (decide (0≤s)))] mixed (by kernel_rfl) (xu ⟨za,za,za,z2v,z01,za,za,z2v,z01,za,za,trivial⟩) ⟨?_,?_,?_,?_,?_,?_,?_,?_,?_,?_,?_,trivial⟩ fun P o=>?_
 intro l Q b f z;exact zi rfl rfl rfl (zf (zb (f 0 rfl)));intro l S b f z;exact zi rfl rfl rfl (zf (zb (f 3 rfl)));rintro l T b f ⟨j,_⟩;exact zi rfl rfl rfl (zf (kz (j rfl) rfl x));rintro l U b f ⟨j,t,_⟩
 exact zi rfl rfl rfl (z2j (i:=(e-1).toNat) z7n (j rfl) (jr ((k.mono m).mono b)) (zk (t rfl) p.1) (zy p));rintro l V b f ⟨j,_⟩;exact zi rfl rfl rfl (il z6z rfl (j rfl));intro l W b f z;exact zi rfl rfl rfl (zf (zb (f 0 rfl)));intro l X b f z
 exact zi rfl rfl rfl (zf (zb (f 3 rfl)));rintro l Y b f ⟨j,t,_⟩;exact zi rfl rfl rfl (z2j (i:=e.toNat) z7n (j rfl) (jr ((k.mono m).mono b)) (zk (t rfl) q.1) (zy q));rintro l Z b f ⟨j,_⟩;exact zi rfl rfl rfl (il z6z rfl (j rfl));rintro l aa b f ⟨j,t,_⟩
 exact zi rfl rfl rfl (kw (vs:=[(l 14),(l 18)]) zm2 rfl (zat (j rfl) (t rfl) y) (fun _ _ h=>h));rintro l M b f ⟨j,_⟩;exact zi rfl rfl rfl (zf (mr (j rfl) rfl));intro ab B ac C ad E ae af ag ah ai F aj G ak al am an ao H ap I;obtain rfl:=Eq.symm B;obtain rfl:=Eq.symm C;obtain rfl:=Eq.symm E
 obtain rfl:=Eq.symm F;obtain rfl:=Eq.symm G;obtain rfl:=Eq.symm H;obtain rfl:=Eq.symm I;refine ze (q8 rfl a (fun a=>?_) (fun a=>?_));refine zq (zl (.bool false) (ze (qd ?_)));replace d:=lm a d;obtain rfl:=Option.some.inj d
 refine qc (D:=[]) (J:=[]) (rs:=[.tmp 2]) (vs:=[(.bool false)]) (m.trans o) rfl rfl ⟨rfl,trivial⟩ ?_;exact⟨rfl,rfl⟩;refine qb (zu (zh (vi e) ?_));obtain⟨K,a⟩:=zg a;refine zz (qm rfl rfl K) (zl (vi (e+1)) (ze ?_));exact⟨dkt,o,jg,(u,e+1),Nat.lt_succ_self _,⟨rfl,trivial⟩,prm,a,trivial⟩
 refine jb ?_;exact⟨dkt,m,jg,(),trivial,prm,(Option.some.inj a).symm,trivial⟩;rintro o1 aq R3 L ⟨rfl,_⟩;replace d:=z0o d;refine zq (zl (.bool true) (ze (qd ?_)));obtain rfl:=Option.some.inj d;refine qc (D:=[]) (J:=[]) (rs:=[.tmp 2]) (vs:=[(.bool true)]) L rfl rfl ⟨rfl,trivial⟩ ?_;exact⟨rfl,rfl⟩
theorem zlv:Enters prog 60:=enters_of func60 rfl (by kernel_rfl)
theorem zbt{N:Nat}{R:RH}{f:(List (List Int))}{b:Value}(d:VRep (tSl false (tSl false (zm .i64))) R b f){r:Int}(c:z7b N f=some r):CallP prog 61 #[b] R (fun v R'=>v=(vi r)):=by
 refine qi (args:=[b]) func61 rfl rfl fun A=>?_;rw [z7b] at c;refine zq (zl (vi 0) (ze ?_));obtain⟨e,a,c⟩:=zt c;refine ql (γ:=Int) (rs [2,3,4,16]) (fun g=>[(2,(vi g))]) (fun g=>[]++A) (fun g R=>e=g∧True) ?_ ?_
 refine zq (zh b (zz (qo rfl underlying25 rfl (jr d)) (zh (vi 0) (ze (qa (j4 (γ:=Nat×Int×Int) (rs [2,3,4,5,7,16]) (fun g=>[(2,(vi g.2.1)),(7,(vi g.2.2))]) (fun g=>[]++A) (fun g R=>z1d N f g.1 g.2.1 g.2.2=some e∧True) (fun g=>g.1) (N,0,0) prm ⟨a,trivial⟩ ?_))))));clear a
 rintro⟨n,j,h⟩ u y k ⟨a,_⟩;rcases n with _|n;exact qj a;replace a:z1d N f (n+1) j h=some e:=a;rw [z1d] at a;refine zq (zz (jc rfl rfl) (ze (zw (q8 rfl a (fun a=>?_) (fun a=>?_)))));refine qb (zw (qa (zq ?_)));obtain⟨l,a⟩:=zg a
 refine ug (i:=h.toNat) rfl z7n rfl (jr (d.mono k)) (zk rfl l.1) (zy l) fun w o=>?_;refine ji rfl z6z rfl o fun m p=>?_;refine zl m (ze (zu (zh (vi j) (zh m (zz (qo rfl underlying33 rfl (jr p)) ?_)))));obtain⟨q,a⟩:=zg a
 refine zz (qm rfl rfl q) (zl (vi (j+(↑(ix f h).length:Int))) (ze (zu ?_)));obtain⟨s,a⟩:=zg a;refine zz (qm rfl rfl s) (zh (vi (h+1)) (ze ?_));exact⟨dkt,(RH.le.refl _),jg,(n,j+(↑(ix f h).length:Int),h+1),Nat.lt_succ_self _,⟨rfl,rfl,trivial⟩,prm,a,trivial⟩;refine jb ?_
 exact⟨dkt,k,jg,j,⟨rfl,trivial⟩,prm,(Option.some.inj a).symm,trivial⟩;rintro e x z t ⟨rfl,_⟩;refine zq (zh (vi e) (zl (vi e) (ze (qd ?_))));obtain rfl:=Option.some.inj c;refine qc (D:=[]) (J:=[]) (rs:=[.tmp 2]) (vs:=[(vi e)]) t rfl rfl ⟨rfl,trivial⟩ ?_;exact⟨rfl,rfl⟩
theorem zm7:Enters prog 61:=enters_of func61 rfl (by kernel_rfl)
theorem zbu{N:Nat}{R:RH}{k:(List (List Int))}{b:Value}(e:VRep (tSl false (tSl false (zm .i64))) R b k){inputs:Int}{r:Int}(a:z5g N k inputs=some r):CallP prog 45 #[b,(vi inputs)] R (fun v R'=>v=(vi r)):=by
 refine qi (args:=[b,(vi inputs)]) func45 rfl rfl fun A=>?_;rw [z5g] at a;refine zq (zl (vi 0) (ze (zw (zq (zh b (zh (vi inputs) ?_))))));obtain⟨g,l,a⟩:=zt a;refine qz rfl zlg rfl (zbv e l) fun u w d m=>?_;obtain rfl:=m
 refine zl (vi g) (qw (zh (vi g) (zz (jd rfl rfl) (ze (q8 rfl a (fun a=>?_) (fun a=>?_))))));refine zq (zh (vi g) (zl (vi g) (ze (qd ?_))));obtain rfl:=Option.some.inj a;refine qc (D:=[]) (J:=[]) (rs:=[.tmp 4]) (vs:=[(vi g)]) d rfl rfl ⟨rfl,trivial⟩ ?_;exact⟨rfl,rfl⟩
 refine qb (zw (zq (zh b ?_)));obtain⟨x,n,a⟩:=zt a;refine qz rfl zlv rfl (zby (e.mono d) n) fun o p c h=>?_;obtain rfl:=h;refine zz (ow rfl) (ze (q8 rfl a (fun a=>?_) (fun a=>?_)));refine zq (zl (vi 1) (ze (qd ?_)));obtain rfl:=Option.some.inj a
 refine qc (D:=[]) (J:=[]) (rs:=[.tmp 4]) (vs:=[(vi 1)]) (d.trans c) rfl rfl ⟨rfl,trivial⟩ ?_;exact⟨rfl,rfl⟩;refine qb (zw (zq (zh b ?_)));obtain⟨q,i,a⟩:=zt a;refine qz rfl zm7 rfl (zbt (e.mono (d.trans c)) i) fun s t f j=>?_;obtain rfl:=j
 refine zz (oz rfl rfl) (ze (q8 rfl a (fun a=>?_) (fun a=>?_)));refine zq (zl (vi 3) (ze (qd ?_)));obtain rfl:=Option.some.inj a;refine qc (D:=[]) (J:=[]) (rs:=[.tmp 4]) (vs:=[(vi 3)]) ((d.trans c).trans f) rfl rfl ⟨rfl,trivial⟩ ?_;exact⟨rfl,rfl⟩;refine qb (zq (zl (vi 0) (ze (qd ?_))))
 obtain rfl:=Option.some.inj a;refine qc (D:=[]) (J:=[]) (rs:=[.tmp 4]) (vs:=[(vi 0)]) ((d.trans c).trans f) rfl rfl ⟨rfl,trivial⟩ ?_;exact⟨rfl,rfl⟩
theorem zlk:Enters prog 45:=enters_of func45 rfl (by kernel_rfl)
theorem lu:FieldOk prog 27 0 0:=by
 obtain⟨i,hi,a⟩: ∃ i,prog.info? 25=some i∧i.size=1:=tq (by kernel_rfl);exact z3d underlying27 rfl rfl hi (by rw [a];rfl)
theorem z8x: ∀ w,(isAgg 25).run prog w= .ok false w:=fun w=>by kernel_rfl
theorem zmn:ZeroOk prog 33 z5o vs0 24:=by
 obtain⟨i,zv,hi,a,c,d,f⟩:=z2i (P:=prog) (e:=33) (zv:=vs0) (k:=1) (b:=24) (by kernel_rfl);exact⟨i,zv,hi,a,c,d,fun R=>by subst f;exact⟨rfl,rfl⟩⟩
theorem za5{N:Nat}{R:RH}{m:Mach}{e:Value}(f:VRep (mf false false) R e m){s:Int}{r:Int}(a:z4j N m s=some r):CallP prog 80 #[e,(vi s)] R (fun v R'=>v=(vi r)):=by
 refine qi (args:=[e,(vi s)]) func80 rfl rfl fun A=>?_;rw [z4j] at a;refine zq (bg (T:=(mf false false)) rfl rfl rfl f fun C E c n o=>?_);refine zl (vi 0) (ze (zw (zq (zz (uf zaj rfl rfl n (f.mono c)) ?_))));obtain⟨g,p,a⟩:=zt a
 refine qz rfl zjx rfl (z3b (f.mono c) p) fun F q b t=>?_;obtain rfl:=t;refine zl (vi g) (qw (zh (vi g) (zz (jd rfl rfl) (ze (q8 rfl a (fun a=>?_) (fun a=>?_))))));refine zq (zh (vi g) (zl (vi g) (ze (qd ?_))));obtain rfl:=Option.some.inj a
 refine qc (D:=[]) (J:=[]) (rs:=[.tmp 4]) (vs:=[(vi g)]) (c.trans b) rfl rfl ⟨rfl,trivial⟩ ?_;exact⟨rfl,rfl⟩;refine qb (zw (zq (jo (v:=(vi s)) rfl (zb rfl) (jo rfl (jc rfl rfl) (jo (v:=(.bool (decide (s<0)))) rfl (zb rfl) (ja rfl rfl rfl rfl (fun d=>qp (v:=(vi s)) (zb rfl)) fun u h=>?_))))))
 refine ja rfl rfl rfl rfl (fun d=>z1k za2 z6b rfl (o.mono b)) fun w i=>?_;refine ja rfl rfl rfl rfl (fun d=>nu zfn rfl (i.1 (zo rfl d))) fun x j=>?_;refine ja rfl rfl rfl rfl (fun d=>qp (qo rfl underlying46 rfl (jr (j.1 (zo rfl d))))) fun y k=>?_
 refine ja rfl rfl rfl rfl (fun d=>qp (mr (h.1 (zo rfl d)) (k.1 (zo rfl d)))) fun z l=>?_;refine jo rfl (og rfl rfl (fun B=>(l.1 (zo rfl B)))) (ze (q8 rfl a (fun a=>?_) (fun a=>?_)));refine zq (zl (vi 1) (ze (qd ?_)));obtain rfl:=Option.some.inj a
 refine qc (D:=[]) (J:=[]) (rs:=[.tmp 4]) (vs:=[(vi 1)]) (c.trans b) rfl rfl ⟨rfl,trivial⟩ ?_;exact⟨rfl,rfl⟩;refine qb (zq (zl (vi 0) (ze (qd ?_))));obtain rfl:=Option.some.inj a;refine qc (D:=[]) (J:=[]) (rs:=[.tmp 4]) (vs:=[(vi 0)]) (c.trans b) rfl rfl ⟨rfl,trivial⟩ ?_;exact⟨rfl,rfl⟩
theorem zms:Enters prog 80:=enters_of func80 rfl (by kernel_rfl)
theorem zb9{N:Nat}{R:RH}{m:Mach}{X:Value}(am:VRep (mf false false) R X m){s:Int}{x:(List Int)}{q:Value}(H:VRep (tSl false (zm .i64)) R q x){r:(List Int)×Int}(C:z6q N m s x=some r):CallP prog 81 #[X,(vi s),q] R (fun v R'=> ∃ u0,v= .tuple #[u0,(vi r.2)]∧VRep (tSl true (zm .i64)) R' u0 r.1):=by
 refine qi (args:=[X,(vi s),q]) func81 rfl rfl fun A=>?_;rw [z6q] at C;refine zq (bg (T:=(mf false false)) rfl rfl rfl am fun v1 R3 P h5 h2=>?_);refine zl vs0 (zl (vi 0) (qw (zh q (zz (qo rfl underlying33 rfl (jr (H.mono P))) ?_))));obtain⟨Q,C⟩:=zg C
 refine z4y (T:=(zm .i64)) (m:=(↑x.length:Int).toNat) (c:=(↑x.length:Int).toNat) rfl underlying33 zo3 (zk rfl Q.1) (zk rfl Q.1) (Nat.le_refl _) (z5b Q) (z5i Q) fun y f7 ac h9=>?_;refine zl y (ze ?_);obtain⟨t,a,C⟩:=zt C
 refine ql (γ:=(Int×List Int)×Frag) (rs [1,2,9,12,15,41]) (fun g=>[(1,(vi g.1.1))]) (fun g=>[g.2]++A) (fun g R=>t=g.1∧ORep (zm .i64) R g.2 y g.1.2∧capOf y=g.1.2.length∧True) ?_ ?_
 refine zq (zh q (zz (qo rfl underlying33 rfl (jr (H.mono P))) (zh (vi 0) (ze (qa (j4 (γ:=Nat×Int×Int×(List Int)×Frag) (rs [1,2,9,12,17,41]) (fun g=>[(1,(vi g.2.1)),(17,(vi g.2.2.1))]) (fun g=>[g.2.2.2.2]++A) (fun g R=>z0y N m x g.1 g.2.1 g.2.2.1 g.2.2.2.1=some t∧ORep (zm .i64) R g.2.2.2.2 y g.2.2.2.1∧capOf y=g.2.2.2.1.length∧True) (fun g=>g.1) (N,s,0,(mk (↑x.length:Int) (0:Int)),f7) prm ⟨a,h9,(ac.trans List.length_replicate.symm),trivial⟩ ?_))))))
 clear a;rintro⟨S,n,b,E,Y⟩ aX aY I ⟨a,Z,W,_⟩;rcases S with _|S;exact qj a;replace a:z0y N m x (S+1) n b E=some t:=a;rw [z0y] at a;refine zq (zz (jc rfl rfl) (ze (zw (q8 rfl a (fun a=>?_) (fun a=>?_)))))
 refine qb (zw (qa (zq (zh (vi b) ?_))));obtain⟨ad,a⟩:=zg a;refine ug (i:=b.toNat) rfl lc rfl (jr (H.mono (P.trans I))) (zk rfl ad.1) (zy ad) fun aZ an=>?_;refine ji rfl ty3 rfl an fun a0 ao=>?_;obtain rfl:=q9.1 ao;refine zl (vi b) (zl (vi (ix x b)) (qw ?_))
 obtain⟨U,ap,a⟩:=zt a;refine qz rfl zkd rfl (z6t  ap) fun a1 a2 z aq=>?_;obtain rfl:=aq;refine bn rfl zkr fun F=>?_;refine wz (i:=0) (vs:=[(vi U.to),(vi U.out)]) zja rfl rfl rfl rfl rfl rfl (jm rfl (jm rfl xh)) ?_;refine ze ?_;obtain⟨d,o,a⟩:=zt a
 refine ql (γ:=(Int×Int)) (rs [23,33]) (fun g=>[]) (fun g=>[Y,box F [(vi g.1),(vi g.2)] 65]++A) (fun g R=>d=g∧True) ?_ ?_;refine zq (zh (vi n) (zz (jd rfl rfl) (ze (q8 rfl o (fun o=>?_) (fun o=>?_)))));refine zu (si rfl za2 z6b rfl (h2.mono (I.trans z)) fun a3 ar=>?_)
 refine ji rfl zfn rfl ar fun a4 au=>?_;refine zh (vi n) ?_;obtain⟨ae,o⟩:=zg o;refine ug (i:=n.toNat) rfl zl6 rfl (jr au) (zk rfl ae.1) (zy ae) fun a5 av=>?_;refine ji rfl zjs rfl av fun a6 aw=>?_;refine zh (vi (ix x b)) ?_;obtain⟨af,o⟩:=zg o
 refine ug (i:=(ix x b).toNat) rfl zl1 rfl (jr aw) (zk rfl af.1) (zy af) fun a7 ax=>?_;refine ji rfl zhx rfl ax fun a8 ay=>?_;obtain rfl:=z2g.1 ay
 refine wz (i:=0) (vs:=[(vi ((ix (ix m.rows n) (ix x b)).to)),(vi ((ix (ix m.rows n) (ix x b)).out))]) zja rfl rfl rfl rfl rfl rfl (jm rfl (jm rfl xh)) ?_;refine ze ?_
 exact⟨dkt,(RH.le.refl _),jg,((ix (ix m.rows n) (ix x b)).to,(ix (ix m.rows n) (ix x b)).out),trivial,⟨[],(pk 1 rfl (pk 0 rfl (List.Perm.refl _)))⟩,(Option.some.inj o).symm,trivial⟩;refine qb ?_;exact⟨dkt,(RH.le.refl _),jg,(U.to,U.out),trivial,⟨[],(pk 1 rfl (pk 0 rfl (List.Perm.refl _)))⟩,(Option.some.inj o).symm,trivial⟩
 rintro d a9 ba K ⟨rfl,_⟩;obtain⟨aa,a⟩:=zg a
 refine ni [7] [(fun es=>phX y),(fun es=>phX (vi b)),(fun es=>phX (.pointer (some ⟨F,1,none⟩))),(fun es=>phX (vi d.2)),(fun es=>phX (.pointer (some ⟨F,0,none⟩))),(fun es=>phX (vi d.1)),(fun es=>(fun u _=>wu (zm .i64) y E u b.toNat)),(fun es=>(fun _ _=>True)),(fun es=>phX (vi d.1))] (fun fl es R O=>(fl=[false]∧O.Perm ([Y,box F [(vi d.1),(vi d.2)] 65]++A)∧True)∨(fl=[true]∧ ∃ (fG:Frag),O.Perm ([fG,box F [(vi d.1),(vi d.2)] 65]++A)∧ORep (zm .i64) R fG y (up E b d.2)∧True)) mixed (by kernel_rfl) ⟨(z8 za),(z8 za),(z8 za),(z8 za),(z8 za),(z8 za),(z8 (fun _ _ _ _ h=>h)),(fun _ _ _ _ _ h=>h),(z8 za),trivial⟩ (by rintro fl es R R' O k (⟨rfl,w,_⟩|⟨rfl,fG,w,p,_⟩);exact(.inl ⟨rfl,w,trivial⟩);exact(.inr ⟨rfl,fG,w,(p.mono k),trivial⟩)) ⟨(fun _ _ _ _ _ h=>h),(fun _ _ _ _ _ h=>h),(fun _ _ _ _ _ h=>h),(fun _ _ _ _ _ h=>h),(fun _ _ _ _ _ h=>h),(fun _ _ _ _ _ h=>h),(fun _ _ _ _ _ h=>h),(fun _ _ _ _ _ h=>h),(fun _ _ _ _ _ h=>h),trivial⟩ (fun es=> .inl ⟨rfl,(List.Perm.refl _),trivial⟩) ⟨?_,?_,?_,?_,?_,?_,?_,?_,?_,trivial⟩ fun az ag=>?_
 intro l bb fl O k G B V L;exact zf (zb (G 8 rfl));intro l bc fl O k G B V L;exact zf (zb (G 9 rfl));intro l be fl O k G B V L;exact zf (mo zes (G 11 rfl));intro l bf fl O k G B V L;obtain⟨M,_⟩:=B;rcases L with⟨rfl,w,_⟩|⟨rfl,fG,w,p,_⟩;exact jk w (zf (uw (i:=1) ag3 (M rfl) rfl rfl))
 exact jv V (by kernel_rfl);intro l bh fl O k G B V L;obtain⟨M,_⟩:=B;exact zf (mo zew (G 11 rfl));intro l bi fl O k G B V L;obtain⟨M,d1,_⟩:=B;rcases L with⟨rfl,w,_⟩|⟨rfl,fG,w,p,_⟩;exact jk w (zf (uw (i:=1) ag3 (M rfl) rfl rfl));exact jk w (zf (uw (i:=1) ag3 (M rfl) rfl rfl))
 intro l bj fl O k G B V L;obtain⟨M,d1,d2,d3,d4,d5,d6,d7,_⟩:=B;exact qf (i:=b.toNat) lc (M rfl) ((Z.mono (z.trans K)).mono k) (zk (d1 rfl) aa.1) (zy aa);intro l bk fl O k G B V hf L;obtain⟨M,d1,d2,d3,d4,d5,d6,d7,_⟩:=B;rcases L with⟨rfl,w,_⟩|⟨rfl,fG,w,p,_⟩;refine kv w ?_
 refine Eff.mono (ko (i:=b.toNat) (j:=0) ty3 ((Z.mono (z.trans K)).mono k) rfl rfl (M rfl) (zy aa) (d1 rfl) (q9.2 rfl)) ?_;rintro v R' O' hle' ⟨rfl,f,rfl,ho⟩;exact⟨trivial,.inr ⟨rfl,f,(List.Perm.refl _),ho,trivial⟩⟩;cases hf;intro l bo fl O k G B V L;obtain⟨M,d1,d2,d3,d4,d5,d6,d7,d8,d9,_⟩:=B;exact zf (mh (M rfl))
 intro bp bq br bs bt bu bv bw aA aB aC aD aE aF bx aG;rintro aT (⟨e,_⟩|⟨_,ai,w,ab,_⟩);cases e;refine⟨[],_,w,?_⟩;replace ab:ORep (zm .i64) az ai y (up E b d.2):=ab;obtain rfl:=Eq.symm aA;obtain rfl:=Eq.symm aB;obtain rfl:=Eq.symm aC;obtain rfl:=Eq.symm aD;obtain rfl:=Eq.symm aE;obtain rfl:=Eq.symm aF;obtain rfl:=Eq.symm aG
 refine ze (zu ?_);obtain⟨aH,a⟩:=zg a;refine zz (qm rfl rfl aH) (zh (vi (b+1)) (ze ?_))
 exact⟨dkt,((z.trans K).trans ag),jg,(S,d.1,b+1,(up E b d.2),ai),Nat.lt_succ_self _,⟨rfl,rfl,trivial⟩,⟨[box F [(vi d.1),(vi d.2)] 65],(pk 1 rfl (pk 0 rfl (List.Perm.refl _)))⟩,a,ab,(W.trans List.length_set.symm),trivial⟩;refine jb ?_
 exact⟨dkt,I,jg,((n,E),Y),⟨rfl,trivial⟩,prm,(Option.some.inj a).symm,Z,W,trivial⟩;rintro⟨t,bz⟩ bA bB aj ⟨rfl,aI,ak,_⟩;refine zq (zh y (zh (vi t.1) (zl y (zl (vi t.1) (ze (l5 (i:=0) rfl aI fun aJ al aK=>?_))))));have aL:VRep (tSl true (zm .i64)) aJ y t.2:=(ou aK ak);refine qd ?_
 obtain rfl:=Option.some.inj C;refine qc (D:=[]) (J:=[]) (rs:=[.tmp 6,.tmp 7]) (vs:=[y,(vi t.1)]) ((P.trans aj).trans al) rfl rfl ⟨rfl,rfl,trivial⟩ ?_;exact⟨rfl,⟨y,rfl,aL⟩⟩
theorem zmi:Enters prog 81:=enters_of func81 rfl (by kernel_rfl)
theorem z7m{N:Nat}{R:RH}{m:Mach}{j:Value}(g:VRep (mf false false) R j m){s:Int}{y:(List Int)}{e:Value}(i:VRep (tSl false (zm .i64)) R e y){r:(List Int)×Int}(a:z4d N m s y=some r):CallP prog 62 #[j,(vi s),e] R (fun v R'=> ∃ z,v= .tuple #[z,(vi r.2)]∧VRep (tSl true (zm .i64)) R' z r.1):=by
 refine qi (args:=[j,(vi s),e]) func62 rfl rfl fun A=>?_;rw [z4d] at a;refine zq (bg (T:=(mf false false)) rfl rfl rfl g fun P Q d B C=>?_);refine zl vs0 (zl (vi 0) (ze (zw (zq (zz (uf zaj rfl rfl B (g.mono d)) (zh (vi s) ?_))))));obtain⟨k,E,a⟩:=zt a
 refine qz rfl zms rfl (za5 (g.mono d) E) fun S F b G=>?_;obtain rfl:=G;refine zl (vi k) (qw (zh (vi k) (zz (jd rfl rfl) (ze (q8 rfl a (fun a=>?_) (fun a=>?_))))));refine zq (zh (vi k) (zl vs0 (zl (vi k) (ze (qd ?_)))));obtain rfl:=Option.some.inj a
 refine qc (D:=[]) (J:=[]) (rs:=[.tmp 6,.tmp 7]) (vs:=[vs0,(vi k)]) (d.trans b) rfl rfl ⟨rfl,rfl,trivial⟩ ?_;exact⟨rfl,⟨vs0,rfl,z0j⟩⟩;refine qb (zw (zq (zh e (si rfl z8n z5y rfl (C.mono b) fun H o=>?_))));refine ji rfl ty3 rfl o fun I p=>?_;obtain rfl:=q9.1 p
 obtain⟨h,q,a⟩:=zt a;refine qz rfl zki rfl (z8g (i.mono (d.trans b)) q) fun K L c t=>?_;obtain rfl:=t;refine zl (vi h) (qw (zh (vi h) (zz (jd rfl rfl) (ze (q8 rfl a (fun a=>?_) (fun a=>?_))))))
 refine zq (zh (vi h) (zl vs0 (zl (vi h) (ze (qd ?_)))));obtain rfl:=Option.some.inj a;refine qc (D:=[]) (J:=[]) (rs:=[.tmp 6,.tmp 7]) (vs:=[vs0,(vi h)]) ((d.trans b).trans c) rfl rfl ⟨rfl,rfl,trivial⟩ ?_;exact⟨rfl,⟨vs0,rfl,z0j⟩⟩
 refine qb (zq (zz (uf zaj rfl rfl (B.mono (b.trans c)) (g.mono ((d.trans b).trans c))) (zh (vi s) (zh e ?_))));obtain⟨l,u,a⟩:=zt a;refine qz rfl zmi rfl (zb9 (g.mono ((d.trans b).trans c)) (i.mono ((d.trans b).trans c)) u) fun M O n w=>?_;obtain⟨f,rfl,x⟩:=w
 refine zh (.tuple #[f,(vi l.2)]) (zz (qg rfl rfl) (zz (qg rfl rfl) (zl f (zl (vi l.2) (qw (zh f (zl f (zl (vi 0) (ze (qd ?_))))))))));obtain rfl:=Option.some.inj a
 refine qc (D:=[]) (J:=[]) (rs:=[.tmp 6,.tmp 7]) (vs:=[f,(vi 0)]) (((d.trans b).trans c).trans n) rfl rfl ⟨rfl,rfl,trivial⟩ ?_;exact⟨rfl,⟨f,rfl,x⟩⟩
end GV
end Go.Proofs.Ytkhihcleegljhaa
