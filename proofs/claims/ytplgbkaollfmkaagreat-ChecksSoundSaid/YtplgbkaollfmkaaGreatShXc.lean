import Derived.Test.YtplgbkaollfmkaaGreatShXb
import Derived.Test.YtplgbkaollfmkaaGreatRows
set_option linter.unusedVariables false
set_option linter.unusedSimpArgs false
namespace Go.Proofs.YtplgbkaollfmkaaGreat
namespace GV
open _root_.Go.Proofs.Tryz
open Go.IntWalk
set_option maxRecDepth 100000
set_option maxHeartbeats 20000000
theorem qbi:Enters prog 45:=enters_of func45 rfl (by kernel_rfl)
theorem zf7{N:Nat}{R:RH}{x:Sq}{c:Value}(h:VRep (z0f false false) R c x){r:Mach}(b:z3y N x=some r):CallP prog 20 #[c] R (fun v R'=>VRep (ja false false) R' v r):=by
 refine qg (args:=[c]) func20 rfl rfl fun A=>?_;rw [z3y] at b;refine zl ?_;obtain⟨n,o,rfl,p,q⟩:=zd6 h;refine zuz (cs:=[(.int .u8 x.fAb.fB),(.int .u8 x.fAb.fA),(.int .u8 x.fAb.fC),n,o]) rfl rfl rfl fun s=>?_;refine um rfl zh3 fun t=>?_
 refine qw (zo (q8 zu4 rfl) (zo (q8 zvd rfl) (zo (qb (i:=1) ag5 rfl rfl rfl) ?_)));obtain⟨u,b⟩:=zb b;refine zo (z2t rfl rfl u) (zo (q8 zu4 rfl) (zo (q8 zvd rfl) (jo (i:=1) (vs:=[(.int .u8 (x.fAb.fB%5))]) sz5 rfl rfl rfl rfl rfl rfl (qf rfl jq) ?_)))
 refine qw (zo (q8 zu4 rfl) (zo (wu (i:=1) qbf qbe rfl rfl rfl rfl) ?_));obtain⟨y,j,b⟩:=zq b
 refine jc rfl q9f rfl (za8 (⟨_,⟨_,_,rfl,rfl,⟨_,_,rfl,rfl,⟨_,_,rfl,rfl,⟨_,_,rfl,(ku rfl p),(ku rfl q)⟩⟩⟩⟩,rfl⟩:VRep (gm false false) _ _ (⟨x.fAb.fB%5,x.fAb.fA,x.fAb.fC,x.fAb.fI,x.fAb.fE⟩:Sa)) j) fun z B e k=>?_;obtain⟨a,l,b⟩:=zq b
 refine jc rfl qbi rfl (zcj k l) fun C E f m=>?_;obtain⟨d,rfl,g⟩:=z6r m;refine jo (i:=0) (vs:=[(vi a.inputs),(vi a.outputs),d]) z4k rfl rfl rfl rfl rfl rfl (qf rfl (qf rfl (qf (z5j g) jq))) ?_;refine z8 (qx ?_);obtain rfl:=Option.some.inj b
 refine qd (D:=[]) (J:=[box t [(vi a.inputs),(vi a.outputs),d] 32,box s [(.int .u8 (x.fAb.fB%5)),(.int .u8 x.fAb.fA),(.int .u8 x.fAb.fC),n,o] 27]) (rs:=[.cell 2 32]) (vs:=[(.agg #[(vi a.inputs),(vi a.outputs),d])]) (e.trans f) rfl rfl ⟨⟨_,rfl,fun w F=>z2r (i:=0) F rfl rfl z8u z4k rfl rfl⟩,trivial⟩ ?_
 exact⟨rfl,(⟨_,⟨_,_,rfl,rfl,⟨_,_,rfl,rfl,(ku rfl g)⟩⟩,rfl⟩:VRep (ja false false) _ _ (⟨a.inputs,a.outputs,a.rows⟩:Mach))⟩
theorem qak:Enters prog 20:=enters_of func20 rfl (by kernel_rfl)
theorem q71:FieldOk prog 29 1 5:=by
 obtain⟨i,hi,a⟩: ∃ i,prog.info? 22=some i∧i.size=1:=jr (by kernel_rfl);exact uj underlying29 rfl rfl hi (by rw [a];rfl)
theorem en7:Enters prog 7:=enters_of func7 rfl (by kernel_rfl)
theorem zek{N:Nat}{R:RH}{x:Sk}{j:Value}(p:VRep (z0h false false false) R j x){r:Mach×(List Int)}(c:z3v N x=some r):CallP prog 6 #[j] R (fun v R'=> ∃ H I,v= .tuple #[H,I]∧VRep (ja false false) R' H r.1∧VRep (tSl false (zu .i64)) R' I r.2):=by
 refine qg (args:=[j]) func6 rfl rfl fun A=>?_;rw [z3v] at c;refine zl (jy (T:=(z0h false false false)) rfl rfl rfl p fun v1 R3 q h5 K=>?_);refine um rfl zh3 fun M=>?_;refine zi vs0 (qw (jb rfl q6p zev rfl K fun v8 O=>?_))
 refine qh rfl qbj rfl O fun P s=>?_;obtain⟨a,t,c⟩:=zq c;refine jc rfl qak rfl (zf7 s t) fun Q S f u=>?_;refine um rfl zh3 fun n=>?_;obtain⟨b,rfl,k⟩:=z6r u
 refine jo (i:=0) (vs:=[(vi a.inputs),(vi a.outputs),b]) z4k rfl rfl rfl rfl rfl rfl (qf rfl (qf rfl (qf (z5j k) jq))) ?_;refine z8 (q9 ?_);obtain⟨y,z,c⟩:=zq c
 refine p8 6 [] [phX (.agg #[(vi a.inputs),(vi a.outputs),b]),phP (tSl false (zu .u8)) x.fAg,phR (tSl false (zu .u8)) x.fAg,phX (.pointer (some ⟨n,0,none⟩)),phX (vi a.inputs),phR (tSl false (zu .i64)) y] mixed (by kernel_rfl) (vw ⟨zh,wm,vo,zh,zh,vo,trivial⟩) ⟨?_,?_,?_,?_,?_,?_,trivial⟩ fun U e=>?_
 intro l V d g L;exact za rfl rfl rfl (zn (wu (i:=0) z8u z4k (g 4 rfl) rfl rfl rfl));intro l W d g L;exact za rfl rfl rfl (oq q71 zf6 (g 1 rfl) ((K.mono f).mono d));rintro l X d g ⟨o,_⟩;exact za rfl rfl rfl (kz q3o rfl (o rfl));intro l Y d g L
 exact za rfl rfl rfl (zn (q8 av (g 4 rfl)));rintro l Z d g ⟨o,_⟩;exact za rfl rfl rfl (zn (qb (i:=0) ag3 (o rfl) rfl rfl));rintro l aa d g ⟨o,d1,_⟩;have B:l 12=(vi a.inputs):=d1 rfl
 exact za rfl rfl rfl (ww (vs:=[(l 10),(vi a.inputs),(vi 6)]) en7 (by simp only [List.map,ev,B]<;>rfl) (za7 (o rfl) z) (fun _ _ h=>h));intro ac C ad ae af ag ah E ai F m G;obtain rfl:=Eq.symm C;obtain rfl:=Eq.symm E;obtain rfl:=Eq.symm F
 refine jo (i:=1) (vs:=[(vi a.inputs),(vi a.outputs),b]) z4k rfl rfl rfl rfl rfl rfl (qf rfl (qf rfl (qf (z5j (k.mono e)) jq))) ?_;refine zi m (z8 (qx ?_));obtain rfl:=Option.some.inj c
 refine qd (D:=[]) (J:=[box n [(vi a.inputs),(vi a.outputs),b] 32,box M [(vi a.inputs),(vi a.outputs),b] 32]) (rs:=[.cell 2 32,.tmp 3]) (vs:=[(.agg #[(vi a.inputs),(vi a.outputs),b]),m]) ((q.trans f).trans e) rfl rfl ⟨⟨_,rfl,fun w hh=>z2r (i:=1) hh rfl rfl z8u z4k rfl rfl⟩,rfl,trivial⟩ ?_
 exact⟨rfl,⟨(.agg #[(vi a.inputs),(vi a.outputs),b]),m,rfl,(⟨_,⟨_,_,rfl,rfl,⟨_,_,rfl,rfl,(ku rfl (k.mono e))⟩⟩,rfl⟩:VRep (ja false false) _ _ (⟨a.inputs,a.outputs,a.rows⟩:Mach)),G⟩⟩
theorem en6:Enters prog 6:=enters_of func6 rfl (by kernel_rfl)
theorem q4u: ∀ w,∃ z,(zeroValue 39).run prog w= .ok z w∧z.cells=([.bool false,.slice none 0 0,.slice none 0 0]:List Value).toArray:=fun w=>⟨(.agg #[(.bool false),vs0,vs0]),by kernel_rfl,rfl⟩
theorem zau{N:Nat}{R:RH}{s:(List Edge)}{c:Value}(k:VRep (tSl false kEdge) R c s){f:Edge→Option Bool}{e:Value}(n:FOk1 prog R e kEdge jl f){r:Int}(b:z07 N s f=some r):CallP prog 92 #[c,e] R (fun v R'=>v=(vi r)):=by
 refine qg (args:=[c,e]) func92 rfl rfl fun A=>?_;rw [z07] at b;refine zl (zi (vi 0) (z8 ?_));obtain⟨o,a,b⟩:=zq b;refine ql (γ:=Unit) (rs [4,19]) (fun g=>[]) (fun g=>[]++A) (fun g R=>o=Ex.go g∧True) ?_ ?_
 refine zl (zg c (zo (qi rfl underlying97 rfl (qz k)) (zg (vi 0) (z8 (zx (j5 (γ:=Nat×Int) (rs [4,6,8,19]) (fun g=>[(8,(vi g.2))]) (fun g=>[]++A) (fun g R=>wy N s f g.1 g.2=some o∧True) (fun g=>g.1) (N,0) prm ⟨a,trivial⟩ ?_))))));clear a;rintro⟨m,d⟩ y H h ⟨a,_⟩
 rcases m with _|m;exact qp a;replace a:wy N s f (m+1) d=some o:=a;rw [wy] at a;refine zl (zo (j3 rfl rfl) (z8 (q9 (zw rfl a (fun a=>?_) (fun a=>?_)))))
 refine qa (q9 (zx (zl (zg (vi d) (zi (vi d) (qw (zg e (zg c (zg (vi d) ?_)))))))));obtain⟨l,a⟩:=zb a;refine kw (i:=d.toNat) rfl z8x rfl (qz (k.mono h)) (ze rfl l.1) (zz l) fun z p=>?_;refine qh rfl z7k rfl p fun B q=>?_;obtain rfl:=ax.1 q
 obtain⟨C,t,a⟩:=zq a;refine zm0 rfl rfl rfl ((n.mono h) _ (RH.le.refl _) (ix s d) _ _ (ax.2 rfl) t) fun E F j u=>?_;obtain rfl:=ul.1 u;refine z8 (zw rfl a (fun a=>?_) (fun a=>?_));refine zl (zg (vi d) (zi (vi d) (z8 (qx ?_))));replace b:=z3k a b;obtain rfl:=Option.some.inj b
 refine qd (D:=[]) (J:=[]) (rs:=[.tmp 4]) (vs:=[(vi d)]) (h.trans j) rfl rfl ⟨rfl,trivial⟩ ?_;exact⟨rfl,rfl⟩;refine qa (zy ?_);obtain⟨w,a⟩:=zb a;refine zo (j4 rfl rfl w) (zg (vi (d+1)) (z8 ?_));exact⟨dkt,j,je,(m,d+1),Nat.lt_succ_self _,⟨rfl,trivial⟩,prm,a,trivial⟩;refine jd ?_
 exact⟨dkt,h,je,(),trivial,prm,(Option.some.inj a).symm,trivial⟩;rintro I G K x ⟨rfl,_⟩;replace b:=z4x b;refine zl (zi (vi (-1)) (z8 (qx ?_)));obtain rfl:=Option.some.inj b;refine qd (D:=[]) (J:=[]) (rs:=[.tmp 4]) (vs:=[(vi (-1))]) x rfl rfl ⟨rfl,trivial⟩ ?_;exact⟨rfl,rfl⟩
theorem qbg:Enters prog 92:=enters_of func92 rfl (by kernel_rfl)
theorem z9e{N:Nat}{R:RH}{s:(List Edge)}{a:Value}(d:VRep (tSl false kEdge) R a s){f:Edge→Option Bool}{b:Value}(e:FOk1 prog R b kEdge jl f){r:Bool}(c:rz N s f=some r):CallP prog 77 #[a,b] R (fun v R'=>v=(.bool r)):=by
 refine qg (args:=[a,b]) func77 rfl rfl fun A=>?_;rw [rz] at c;refine zl (zi (.bool false) (qw (zg a (zg b ?_))));obtain⟨h,i,c⟩:=zq c;refine jc rfl qbg rfl (zau d e i) fun k l g j=>?_;obtain rfl:=j
 refine zo (z10 rfl rfl) (zi (.bool (decide (0≤h))) (z8 (qx ?_)));obtain rfl:=Option.some.inj c;refine qd (D:=[]) (J:=[]) (rs:=[.tmp 4]) (vs:=[(.bool (decide (0≤h)))]) g rfl rfl ⟨rfl,trivial⟩ ?_;exact⟨rfl,rfl⟩
theorem qb6:Enters prog 77:=enters_of func77 rfl (by kernel_rfl)
theorem zak{N:Nat}{R:RH}  {r:Edge} (a:z3j N  =some r):CallP prog 93 #[] R (fun v R'=>v=(z0s r)):=by
 refine qg (args:=[]) func93 rfl rfl fun A=>?_;rw [z3j] at a;refine zl (um rfl z6v fun b=>?_)
 refine qw (zo (yn (ps:=[(0,(vi (-1))),(1,(vi (-1)))]) (v:=(.agg #[(vi (-1)),(vi (-1))])) rfl (fun w=>by kernel_rfl)) (jo (i:=0) (vs:=[(vi (-1)),(vi (-1))]) z4o rfl rfl rfl rfl rfl rfl (qf rfl (qf rfl jq)) ?_));refine z8 (qx ?_);obtain rfl:=Option.some.inj a
 refine qd (D:=[]) (J:=[box b [(vi (-1)),(vi (-1))] 100]) (rs:=[.cell 0 100]) (vs:=[(.agg #[(vi (-1)),(vi (-1))])]) (RH.le.refl _) rfl rfl ⟨⟨_,rfl,fun w c=>z2r (i:=0) c rfl rfl znl z4o rfl rfl⟩,trivial⟩ ?_;exact⟨rfl,rfl⟩
theorem q66:Enters prog 93:=enters_of func93 rfl (by kernel_rfl)
theorem q5n:zod prog 100:=zpt (f0:=((prog.fieldsOf 100).toList.getD 0 default)) (f1:=((prog.fieldsOf 100).toList.getD 1 default)) (by kernel_rfl) (by kernel_rfl) (by kernel_rfl) (by kernel_rfl) (by kernel_rfl) (by kernel_rfl) (by kernel_rfl) (by kernel_rfl) (by kernel_rfl) (by kernel_rfl)
theorem zkn{N:Nat}{R:RH}{m:Mach}{p:Value}(w:VRep (ja false false) R p m){x:Edge}{r:Bool}(n:zcg N m x=some r):CallP prog 79 #[p,(z0s x)] R (fun v R'=>v=(.bool r)):=by
 refine qg (args:=[p,(z0s x)]) func79 rfl rfl fun A=>?_;rw [zcg] at n;refine zl (jy (T:=(ja false false)) rfl rfl rfl w fun v1 R3 y h5 K=>?_);refine zij (T:=kEdge) rfl rfl (ax.2 rfl) fun v6 R8 q t=>?_;refine zi (.bool false) (z8 (q9 ?_));obtain⟨b,z,n⟩:=zq n
 let B:=((decide (x.to=b.to∧x.out=b.out))||((((decide (0≤x.to))&&(decide (x.to<(↑m.rows.length:Int))))&&(decide (0≤x.out)))&&(decide (x.out<m.outputs))));let L:=((((decide (0≤x.to))&&(decide (x.to<(↑m.rows.length:Int))))&&(decide (0≤x.out)))&&(decide (x.out<m.outputs)))
 let o:=(((decide (0≤x.to))&&(decide (x.to<(↑m.rows.length:Int))))&&(decide (0≤x.out)));let k:=((decide (0≤x.to))&&(decide (x.to<(↑m.rows.length:Int))));let e:=(true&&((decide (x.to=b.to∧x.out=b.out))==false))
 refine p8 29 [] [phX (z0s x),phX (z0s b),phX (.bool (decide (x.to=b.to∧x.out=b.out))),phX (.bool (decide (x.to=b.to∧x.out=b.out))),phG e (phP (zu .i64) x.to),phG e (phX (vi x.to)),phG e (phX (.bool (decide (0≤x.to)))),phG e (phX (.bool (decide (0≤x.to)))),phG (e&&((decide (0≤x.to))==true)) (phP (zu .i64) x.to),phG (e&&((decide (0≤x.to))==true)) (phX (vi x.to)),phG (e&&((decide (0≤x.to))==true)) (phP (tSl false (tSl false kEdge)) m.rows),phG (e&&((decide (0≤x.to))==true)) (phR (tSl false (tSl false kEdge)) m.rows),phG (e&&((decide (0≤x.to))==true)) (phX (vi (↑m.rows.length:Int))),phG (e&&((decide (0≤x.to))==true)) (phX (.bool (decide (x.to<(↑m.rows.length:Int))))),phG e (phX (.bool k)),phG e (phX (.bool k)),phG (e&&(k==true)) (phP (zu .i64) x.out),phG (e&&(k==true)) (phX (vi x.out)),phG (e&&(k==true)) (phX (.bool (decide (0≤x.out)))),phG e (phX (.bool o)),phG e (phX (.bool o)),phG (e&&(o==true)) (phP (zu .i64) x.out),phG (e&&(o==true)) (phX (vi x.out)),phG (e&&(o==true)) (phP (zu .i64) m.outputs),phG (e&&(o==true)) (phX (vi m.outputs)),phG (e&&(o==true)) (phX (.bool (decide (x.out<m.outputs)))),phG e (phX (.bool L)),phX (.bool B),phX (.bool B)] mixed (by kernel_rfl) (vw ⟨zh,zh,zh,zh,(qj wm),(qj zh),(qj zh),(qj zh),(qj wm),(qj zh),(qj wm),(qj vo),(qj zh),(qj zh),(qj zh),(qj zh),(qj wm),(qj zh),(qj zh),(qj zh),(qj zh),(qj wm),(qj zh),(qj wm),(qj zh),(qj zh),(qj zh),zh,zh,trivial⟩) ⟨?_,?_,?_,?_,?_,?_,?_,?_,?_,?_,?_,?_,?_,?_,?_,?_,?_,?_,?_,?_,?_,?_,?_,?_,?_,?_,?_,?_,?_,trivial⟩ fun ai u=>?_
 intro l aj a g hd;exact za rfl rfl rfl (uu (kz z7k (g 3 rfl) (t.mono a)) (fun _ _ h=>ax.1 h));intro l al a g hd;exact za rfl rfl rfl (ww (vs:=[]) q66 rfl (zak  z) (fun _ _ h=>h));rintro l am a g ⟨c,f,_⟩;exact za rfl rfl rfl (zn (zsh q5n (c rfl) (f rfl)));rintro l an a g ⟨c,f,_⟩
 exact za rfl rfl rfl (zn (zf (c rfl)));rintro l ao a g ⟨c,_⟩;exact zm (Gj:=true) (Bj:=decide (x.to=b.to∧x.out=b.out)) rfl rfl rfl (jm (c rfl)) rfl (fun i d=>oq yo z6u (g 3 rfl) (t.mono a));rintro l ap a g ⟨c,f,_⟩
 exact zm (Gj:=true) (Bj:=decide (x.to=b.to∧x.out=b.out)) rfl rfl rfl (jm (f rfl)) rfl (fun i d=>uu (kz ty3 rfl ((c rfl).1 (zt rfl d))) (fun _ _ h=>j6.1 h));rintro l aq a g ⟨c,f,_⟩
 exact zm (Gj:=true) (Bj:=decide (x.to=b.to∧x.out=b.out)) rfl rfl rfl (jm (f rfl)) rfl (fun i d=>zn (z10 (show l 10=(vi x.to) from(c rfl).1 (zt rfl d)) rfl));rintro l ar a g ⟨c,f,j,_⟩
 exact zm (Gj:=true) (Bj:=decide (x.to=b.to∧x.out=b.out)) rfl rfl rfl (jm (f rfl)) rfl (fun i d=>zn (zf (show l 11=(.bool (decide (0≤x.to))) from(c rfl).1 (zt rfl d))));rintro l au a g ⟨c,_⟩;exact zm (Gj:=e) (Bj:=decide (0≤x.to)) rfl rfl rfl (c rfl) rfl (fun i d=>oq yo z6u (g 3 rfl) (t.mono a))
 rintro l av a g ⟨c,f,_⟩;exact zm (Gj:=e) (Bj:=decide (0≤x.to)) rfl rfl rfl (f rfl) rfl (fun i d=>uu (kz ty3 rfl ((c rfl).1 (zt i d))) (fun _ _ h=>j6.1 h));rintro l M a g ⟨c,_⟩;exact zm (Gj:=e) (Bj:=decide (0≤x.to)) rfl rfl rfl (c rfl) rfl (fun i d=>oq ug ko (g 2 rfl) ((K.mono q).mono a))
 rintro l O a g ⟨c,f,_⟩;exact zm (Gj:=e) (Bj:=decide (0≤x.to)) rfl rfl rfl (f rfl) rfl (fun i d=>kz z0c rfl ((c rfl).1 (zt i d)));rintro l P a g ⟨c,f,_⟩;exact zm (Gj:=e) (Bj:=decide (0≤x.to)) rfl rfl rfl (f rfl) rfl (fun i d=>zn (qi rfl underlying30 rfl (qz ((c rfl).1 (zt i d)))))
 rintro l Q a g ⟨c,f,j,_⟩;exact zm (Gj:=e) (Bj:=decide (0≤x.to)) rfl rfl rfl (j rfl) rfl (fun i d=>zn (j3 (show l 14=(vi x.to) from(c rfl).1 (zt i d)) (show l 17=(vi (↑m.rows.length:Int)) from(f rfl).1 (zt i d))));rintro l S a g ⟨c,f,j,_⟩
 exact zm (Gj:=true) (Bj:=decide (x.to=b.to∧x.out=b.out)) rfl rfl rfl (jm (j rfl)) rfl (fun i d=>zn (xz (show l 12=(.bool (decide (0≤x.to))) from(c rfl).1 (zt rfl d)) (fun s=>(show l 18=(.bool (decide (x.to<(↑m.rows.length:Int)))) from(f rfl).1 (zt (zt rfl d) s))) rfl));rintro l U a g ⟨c,f,j,_⟩
 exact zm (Gj:=true) (Bj:=decide (x.to=b.to∧x.out=b.out)) rfl rfl rfl (jm (j rfl)) rfl (fun i d=>zn (zf (show l 19=(.bool k) from(c rfl).1 (zt rfl d))));rintro l V a g ⟨c,_⟩
 exact zm (Gj:=e) (Bj:=(decide (0≤x.to))&&(decide (x.to<(↑m.rows.length:Int)))) rfl rfl rfl (c rfl) rfl (fun i d=>oq z6i zs7 (g 3 rfl) (t.mono a));rintro l W a g ⟨c,f,_⟩
 exact zm (Gj:=e) (Bj:=(decide (0≤x.to))&&(decide (x.to<(↑m.rows.length:Int)))) rfl rfl rfl (f rfl) rfl (fun i d=>uu (kz ty3 rfl ((c rfl).1 (zt i d))) (fun _ _ h=>j6.1 h));rintro l X a g ⟨c,f,_⟩
 exact zm (Gj:=e) (Bj:=(decide (0≤x.to))&&(decide (x.to<(↑m.rows.length:Int)))) rfl rfl rfl (f rfl) rfl (fun i d=>zn (z10 (show l 22=(vi x.out) from(c rfl).1 (zt i d)) rfl));rintro l Y a g ⟨c,f,j,_⟩
 exact zm (Gj:=true) (Bj:=decide (x.to=b.to∧x.out=b.out)) rfl rfl rfl (jm (j rfl)) rfl (fun i d=>zn (xz (show l 20=(.bool k) from(c rfl).1 (zt rfl d)) (fun s=>(show l 23=(.bool (decide (0≤x.out))) from(f rfl).1 (zt (zt rfl d) s))) rfl));rintro l Z a g ⟨c,f,j,_⟩
 exact zm (Gj:=true) (Bj:=decide (x.to=b.to∧x.out=b.out)) rfl rfl rfl (jm (j rfl)) rfl (fun i d=>zn (zf (show l 24=(.bool o) from(c rfl).1 (zt rfl d))));rintro l aa a g ⟨c,_⟩;exact zm (Gj:=e) (Bj:=k&&(decide (0≤x.out))) rfl rfl rfl (c rfl) rfl (fun i d=>oq z6i zs7 (g 3 rfl) (t.mono a))
 rintro l ab a g ⟨c,f,_⟩;exact zm (Gj:=e) (Bj:=k&&(decide (0≤x.out))) rfl rfl rfl (f rfl) rfl (fun i d=>uu (kz ty3 rfl ((c rfl).1 (zt i d))) (fun _ _ h=>j6.1 h));rintro l ac a g ⟨c,_⟩
 exact zm (Gj:=e) (Bj:=k&&(decide (0≤x.out))) rfl rfl rfl (c rfl) rfl (fun i d=>oq zaj z6o (g 2 rfl) ((K.mono q).mono a));rintro l ad a g ⟨c,f,_⟩;exact zm (Gj:=e) (Bj:=k&&(decide (0≤x.out))) rfl rfl rfl (f rfl) rfl (fun i d=>uu (kz ty3 rfl ((c rfl).1 (zt i d))) (fun _ _ h=>j6.1 h))
 rintro l ae a g ⟨c,f,j,_⟩;exact zm (Gj:=e) (Bj:=k&&(decide (0≤x.out))) rfl rfl rfl (j rfl) rfl (fun i d=>zn (j3 (show l 27=(vi x.out) from(c rfl).1 (zt i d)) (show l 29=(vi m.outputs) from(f rfl).1 (zt i d))));rintro l af a g ⟨c,f,j,_⟩
 exact zm (Gj:=true) (Bj:=decide (x.to=b.to∧x.out=b.out)) rfl rfl rfl (jm (j rfl)) rfl (fun i d=>zn (xz (show l 25=(.bool o) from(c rfl).1 (zt rfl d)) (fun s=>(show l 30=(.bool (decide (x.out<m.outputs))) from(f rfl).1 (zt (zt rfl d) s))) rfl));rintro l ag a g ⟨c,f,_⟩
 exact za rfl rfl rfl (zn (z0v (c rfl) rfl (fun s=>(show l 31=(.bool L) from(f rfl).1 (zt rfl s)))));rintro l ah a g ⟨c,f,j,d3,d4,d5,d6,d7,d8,d9,aw,ay,az,aA,aB,aC,aD,aE,aF,aG,aH,aI,aJ,aK,aL,aM,aN,aO,aP,aQ,_⟩;exact za rfl rfl rfl (zn (iq (c rfl)))
 intro aR C aS E aT F aU G aV aW aX aY aZ a0 a1 a2 a3 a4 a5 a6 a7 a8 a9 ba bb bc be bf bg bh bi bj bk bl bm bn bo bp bq br bs bt bu bv bw bx bz bA bB bC bD bE bF bG bH H bI I;obtain rfl:=Eq.symm C;obtain rfl:=Eq.symm E;obtain rfl:=Eq.symm F;obtain rfl:=Eq.symm G;obtain rfl:=Eq.symm H;obtain rfl:=Eq.symm I
 refine z8 (qx ?_);obtain rfl:=Option.some.inj n;refine qd (D:=[]) (J:=[]) (rs:=[.tmp 4]) (vs:=[(.bool B)]) ((y.trans q).trans u) rfl rfl ⟨rfl,trivial⟩ ?_;exact⟨rfl,rfl⟩
theorem qcc:Enters prog 79:=enters_of func79 rfl (by kernel_rfl)
theorem zha{N:Nat}{R:RH}{x:Edge}{p0_:Mach}{a:Value}(c:PRep (ja false false) R a p0_){r:Bool}(b:z9o N x p0_=some r):CallP prog 78 #[(z0s x),a] R (fun v R'=>v=(.bool r)):=by
 refine qg (args:=[(z0s x),a]) func78 rfl rfl fun A=>?_;rw [z9o] at b;refine zl (zij (T:=kEdge) rfl rfl (ax.2 rfl) fun n o d i=>?_);refine zi (.bool false) (qw (qh rfl rf rfl (c.mono d) fun p j=>?_));refine qh rfl z7k rfl i fun q k=>?_;obtain rfl:=ax.1 k
 obtain⟨h,f,b⟩:=zq b;refine jc rfl qcc rfl (zkn j f) fun l m e g=>?_;obtain rfl:=g;refine zo (z0g rfl) (zi (.bool (!h)) (z8 (qx ?_)));obtain rfl:=Option.some.inj b;refine qd (D:=[]) (J:=[]) (rs:=[.tmp 3]) (vs:=[(.bool (!h))]) (d.trans e) rfl rfl ⟨rfl,trivial⟩ ?_;exact⟨rfl,rfl⟩
theorem qah:Enters prog 78:=enters_of func78 rfl (by kernel_rfl)
theorem z3o{N:Nat}{R:RH}{m:Mach}{q:Value}(F:VRep (ja false false) R q m){r:Int}(b:lu N m=some r):CallP prog 56 #[q] R (fun v R'=>v=(vi r)):=by
 refine qg (args:=[q]) func56 rfl rfl fun A=>?_;rw [lu] at b;refine zl (jy (T:=(ja false false)) rfl rfl rfl F fun E R3 k h5 l=>?_);refine zi (vi 0) (z8 (q9 (zl (zkl rfl (uf av nz rfl l) fun v6 h7=>?_))))
 refine u7 rfl (ny (jk ty3 rfl h7)) (u7 rfl (z4d rfl rfl) (u7 (v:=(.bool (decide (16<m.inputs)))) rfl (zf rfl) (jf rfl rfl rfl rfl (fun c=>uf zaj z6o rfl l) fun ak G=>?_)));refine jf rfl rfl rfl rfl (fun c=>jh (ny (jk ty3 rfl (G.1 (zt rfl c))))) fun al H=>?_
 refine jf rfl rfl rfl rfl (fun c=>jh (z4d (H.1 (zt rfl c)) rfl)) fun am I=>?_;refine u7 rfl (z0v rfl rfl (fun n=>(I.1 (zt rfl n)))) (u7 (v:=(.bool ((decide (16<m.inputs))||(decide (16<m.outputs))))) rfl (zf rfl) (jf rfl rfl rfl rfl (fun c=>uf ug ko rfl l) fun an K=>?_))
 refine jf rfl rfl rfl rfl (fun c=>jk z0c rfl (K.1 (zt rfl c))) fun ao L=>?_;refine jf rfl rfl rfl rfl (fun c=>jh (qi rfl underlying30 rfl (qz (L.1 (zt rfl c))))) fun ap M=>?_;refine jf rfl rfl rfl rfl (fun c=>jh (z4d (M.1 (zt rfl c)) rfl)) fun aq O=>?_
 refine u7 rfl (z0v rfl rfl (fun n=>(O.1 (zt rfl n)))) (z8 (zw rfl b (fun b=>?_) (fun b=>?_)));refine zl (zi (vi 3) (z8 (qx ?_)));obtain rfl:=Option.some.inj b;refine qd (D:=[]) (J:=[]) (rs:=[.tmp 2]) (vs:=[(vi 3)]) k rfl rfl ⟨rfl,trivial⟩ ?_;exact⟨rfl,rfl⟩
 refine qa (q9 (zl (zkl rfl (uf av nz rfl l) fun ar P=>?_)));refine u7 rfl (ny (jk ty3 rfl P)) (u7 rfl (j3 rfl rfl) (u7 (v:=(.bool (decide (m.inputs<1)))) rfl (zf rfl) (jf rfl rfl rfl rfl (fun c=>uf zaj z6o rfl l) fun au Q=>?_)))
 refine jf rfl rfl rfl rfl (fun c=>jh (ny (jk ty3 rfl (Q.1 (zt rfl c))))) fun aw S=>?_;refine jf rfl rfl rfl rfl (fun c=>jh (j3 (S.1 (zt rfl c)) rfl)) fun ay U=>?_
 refine u7 rfl (z0v rfl rfl (fun n=>(U.1 (zt rfl n)))) (u7 (v:=(.bool ((decide (m.inputs<1))||(decide (m.outputs<1))))) rfl (zf rfl) (jf rfl rfl rfl rfl (fun c=>uf ug ko rfl l) fun az V=>?_));refine jf rfl rfl rfl rfl (fun c=>jk z0c rfl (V.1 (zt rfl c))) fun aA W=>?_
 refine jf rfl rfl rfl rfl (fun c=>jh (qi rfl underlying30 rfl (qz (W.1 (zt rfl c))))) fun aB X=>?_;refine jf rfl rfl rfl rfl (fun c=>jh (j3 (X.1 (zt rfl c)) rfl)) fun aC Y=>?_;refine u7 rfl (z0v rfl rfl (fun n=>(Y.1 (zt rfl n)))) (z8 (zw rfl b (fun b=>?_) (fun b=>?_)))
 refine zl (zi (vi 1) (z8 (qx ?_)));obtain rfl:=Option.some.inj b;refine qd (D:=[]) (J:=[]) (rs:=[.tmp 2]) (vs:=[(vi 1)]) k rfl rfl ⟨rfl,trivial⟩ ?_;exact⟨rfl,rfl⟩;refine qa ?_;obtain⟨s,a,b⟩:=zq b;refine ql (γ:=Unit) (rs [2,3,4,5,33,51]) (fun g=>[]) (fun g=>[]++A) (fun g R=>s=Ex.go g∧True) ?_ ?_
 refine zl (jb rfl ug ko rfl l fun aD Z=>?_);refine qh rfl z0c rfl Z fun aE t=>?_
 refine zo (qi rfl underlying30 rfl (qz t)) (zg (vi 0) (z8 (zx (j5 (γ:=Nat×Int) (rs [2,3,4,5,36,51]) (fun g=>[(36,(vi g.2))]) (fun g=>[]++A) (fun g R=>lc N m g.1 g.2=some s∧True) (fun g=>g.1) (N,0) prm ⟨a,trivial⟩ ?_))));clear a;rintro⟨o,e⟩ ah aF d ⟨a,_⟩;rcases o with _|o
 exact qp a;replace a:lc N m (o+1) e=some s:=a;rw [lc] at a;refine zl (zo (j3 rfl rfl) (z8 (q9 (zw rfl a (fun a=>?_) (fun a=>?_)))));refine qa (q9 (zx (zl ?_)));obtain⟨u,a⟩:=zb a
 refine kw (i:=e.toNat) rfl z7n rfl (qz (t.mono d)) (ze rfl u.1) (zz u) fun aG aa=>?_;refine qh rfl z7i rfl aa fun p w=>?_;refine zi p (qw (u7 (v:=p) rfl (zf rfl) (u7 rfl (qi rfl underlying97 rfl (qz w)) (zkl rfl (uf av nz rfl (l.mono d)) fun aH ab=>?_))))
 refine u7 rfl (ny (jk ty3 rfl ab)) (u7 rfl (xx rfl rfl) (u7 (v:=(.bool (decide ((↑(ix m.rows e).length:Int)≠m.inputs)))) rfl (zf rfl) (jf rfl rfl rfl rfl (fun c=>jh (v:=p) (zf rfl)) fun aI ac=>?_)))
 refine jf rfl rfl rfl rfl (fun c=>jh (v:=(.func (.func 78) #[] #[E])) (lw (fs:=[]) (cs:=[E]) rfl rfl)) fun aJ ad=>?_;obtain⟨ae,af,a⟩:=zq a
 refine z5m rfl rfl rfl rfl (fun c=>ww (vs:=[p,(.func (.func 78) #[] #[E])]) qb6 (zao (ac.1 (zt rfl c)) (zao (ad.1 (zt rfl c)) rfl)) ((by have ag:=(z1h af (zt rfl c));exact z9e w (zky (cs:=[E]) qah fun R1 hq z0 u0 y k0 hy=>by obtain rfl:=ax.1 k0;exact CallP.mono (zha ((l.mono d).mono hq) hy) fun v R2 _ hv=>ul.2 hv) ag)) (fun _ _ h=>h)) fun x z f j=>?_
 replace j:phG (true&&((decide ((↑(ix m.rows e).length:Int)≠m.inputs))==false)) (phX (.bool (ae.getD default))) x z:=j;refine u7 rfl (z0v rfl rfl (fun n=>(j.1 (zt rfl n)))) (z8 (zw rfl a (fun a=>?_) (fun a=>?_)));refine zl (zi (vi 1) (z8 (qx ?_)));replace b:=z3k a b;obtain rfl:=Option.some.inj b
 refine qd (D:=[]) (J:=[]) (rs:=[.tmp 2]) (vs:=[(vi 1)]) ((k.trans d).trans f) rfl rfl ⟨rfl,trivial⟩ ?_;exact⟨rfl,rfl⟩;refine qa (zy ?_);obtain⟨B,a⟩:=zb a;refine zo (j4 rfl rfl B) (zg (vi (e+1)) (z8 ?_));exact⟨dkt,f,je,(o,e+1),Nat.lt_succ_self _,⟨rfl,trivial⟩,prm,a,trivial⟩
 refine jd ?_;exact⟨dkt,d,je,(),trivial,prm,(Option.some.inj a).symm,trivial⟩;rintro aO ai aP C ⟨rfl,_⟩;replace b:=z4x b;refine zl (zi (vi 0) (z8 (qx ?_)));obtain rfl:=Option.some.inj b;refine qd (D:=[]) (J:=[]) (rs:=[.tmp 2]) (vs:=[(vi 0)]) (k.trans C) rfl rfl ⟨rfl,trivial⟩ ?_;exact⟨rfl,rfl⟩
theorem zxy:Enters prog 56:=enters_of func56 rfl (by kernel_rfl)
theorem q98: ∀ w,∃ z,(zeroValue 133).run prog w= .ok z w∧z.cells=([.int .i64 0,.nilFunc,.int .i64 0,.nilFunc,.int .i64 0,.nilFunc]:List Value).toArray:=fun w=>⟨(.agg #[(vi 0),.nilFunc,(vi 0),.nilFunc,(vi 0),.nilFunc]),by kernel_rfl,rfl⟩
theorem q5d: ∀ w,(sizeOf 133).run prog w= .ok 6 w:=fun w=>by kernel_rfl
theorem q8b: ∀ w,(isAgg 133).run prog w= .ok true w:=fun w=>by kernel_rfl
theorem zi0{N:Nat}{R:RH}{m:Mach}{b:Value}(d:VRep (ja false false) R b m){r:Mach×Mach×Mach}(c:zaq N m=some r):CallP prog 80 #[b] R (fun v R'=> ∃ g h j,v= .agg #[(vi 9),.func (.func 94) #[] #[g],(vi 11),.func (.func 96) #[] #[h],(vi 12),.func (.func 98) #[] #[j]]∧PRep (ja false false) R' g r.1∧PRep (ja false false) R' h r.2.1∧PRep (ja false false) R' j r.2.2):=by
 refine qg (args:=[b]) func80 rfl rfl fun A=>?_;rw [zaq] at c;refine zl (jy (T:=(ja false false)) rfl rfl rfl d fun a n e o f=>?_);refine um rfl q98 fun k=>?_
 refine qw (zo (lw (fs:=[]) (cs:=[a]) rfl rfl) (zo (yn (ps:=[(0,(vi 9)),(1,(.func (.func 94) #[] #[a]))]) (v:=(.agg #[(vi 9),(.func (.func 94) #[] #[a])])) rfl (fun w=>by kernel_rfl)) (zo (lw (fs:=[]) (cs:=[a]) rfl rfl) (zo (yn (ps:=[(0,(vi 11)),(1,(.func (.func 96) #[] #[a]))]) (v:=(.agg #[(vi 11),(.func (.func 96) #[] #[a])])) rfl (fun w=>by kernel_rfl)) (zo (lw (fs:=[]) (cs:=[a]) rfl rfl) (zo (yn (ps:=[(0,(vi 12)),(1,(.func (.func 98) #[] #[a]))]) (v:=(.agg #[(vi 12),(.func (.func 98) #[] #[a])])) rfl (fun w=>by kernel_rfl)) (zo (yn (ps:=[(0,(.agg #[(vi 9),(.func (.func 94) #[] #[a])])),(1,(.agg #[(vi 11),(.func (.func 96) #[] #[a])])),(2,(.agg #[(vi 12),(.func (.func 98) #[] #[a])]))]) (v:=(.agg #[(vi 9),(.func (.func 94) #[] #[a]),(vi 11),(.func (.func 96) #[] #[a]),(vi 12),(.func (.func 98) #[] #[a])])) rfl (fun w=>by kernel_rfl)) (jo (i:=0) (vs:=[(vi 9),(.func (.func 94) #[] #[a]),(vi 11),(.func (.func 96) #[] #[a]),(vi 12),(.func (.func 98) #[] #[a])]) q5d rfl rfl rfl rfl rfl rfl (qf rfl (qf rfl (qf rfl (qf rfl (qf rfl (qf rfl jq)))))) ?_))))))))
 refine z8 (qx ?_);obtain rfl:=Option.some.inj c
 refine qd (D:=[]) (J:=[box k [(vi 9),(.func (.func 94) #[] #[a]),(vi 11),(.func (.func 96) #[] #[a]),(vi 12),(.func (.func 98) #[] #[a])] 133]) (rs:=[.cell 2 133]) (vs:=[(.agg #[(vi 9),(.func (.func 94) #[] #[a]),(vi 11),(.func (.func 96) #[] #[a]),(vi 12),(.func (.func 98) #[] #[a])])]) e rfl rfl ⟨⟨_,rfl,fun w l=>z2r (i:=0) l rfl rfl q8b q5d rfl rfl⟩,trivial⟩ ?_
 exact⟨rfl,⟨a,a,a,rfl,f,f,f⟩⟩
theorem qc8:Enters prog 80:=enters_of func80 rfl (by kernel_rfl)
theorem q18: ∀ w,∃ z,(zeroValue 132).run prog w= .ok z w∧z.cells=([.int .i64 0,.nilFunc]:List Value).toArray:=fun w=>⟨(.agg #[(vi 0),.nilFunc]),by kernel_rfl,rfl⟩
theorem q0y: ∀ w,(sizeOf 132).run prog w= .ok 2 w:=fun w=>by kernel_rfl
theorem zph:FieldOk prog 132 1 1:=by
 obtain⟨i,hi,a⟩: ∃ i,prog.info? 44=some i∧i.size=1:=jr (by kernel_rfl);exact uj underlying132 rfl rfl hi (by rw [a];rfl)
theorem q7m: ∀ w,(isAgg 44).run prog w= .ok false w:=fun w=>by kernel_rfl
theorem qbu: ∀ w,∃ z,(zeroValue 37).run prog w= .ok z w∧z.cells=([.slice none 0 0]:List Value).toArray:=fun w=>⟨vs0,by kernel_rfl,rfl⟩
theorem zk2{N:Nat}{R:RH}{m:Mach}{a:Value}(d:VRep (ja false false) R a m){r:Mach}(b:z8r N m=some r):CallP prog 110 #[a] R (fun v R'=> ∃ f,v= .func (.func 116) #[] #[f]∧PRep (ja false false) R' f r):=by
 refine qg (args:=[a]) func110 rfl rfl fun A=>?_;rw [z8r] at b;refine zl (jy (T:=(ja false false)) rfl rfl rfl d fun c h e i g=>?_);refine zi .nilFunc (qw (zo (lw (fs:=[]) (cs:=[c]) rfl rfl) (zi (.func (.func 116) #[] #[c]) (z8 (qx ?_)))));obtain rfl:=Option.some.inj b
 refine qd (D:=[]) (J:=[]) (rs:=[.tmp 2]) (vs:=[(.func (.func 116) #[] #[c])]) e rfl rfl ⟨rfl,trivial⟩ ?_;exact⟨rfl,⟨c,rfl,g⟩⟩
theorem q8g:Enters prog 110:=enters_of func110 rfl (by kernel_rfl)
theorem zh1{N:Nat}{R:RH}{p0_:Mach}{e:Value}(r:PRep (ja false false) R e p0_):zvs prog 116 [e] R (fun(x:((Int×Int)×Edge)) vs R=>vs=[(z1x x.1),(z0s x.2)]) (fun σ B s=>z5a N p0_ σ B s):=by
 intro yv σ B I R1 O s0 Y C ab h0 c hy;refine z1e (args:=[yv,e]) func116 rfl rfl fun A=>?_;dsimp only at c;rw [z5a] at c;refine zl (jb rfl ug ko rfl (r.mono C) fun v1 h2=>?_);refine qh rfl z0c rfl h2 fun v3 Z=>?_
 refine zo (qi rfl underlying30 rfl (qz Z)) (zg (vi 0) (z8 (zx (j5 (γ:=Nat×σ×Int×(List Frag)) (rs [3,7,10,31]) (fun g=>[(10,(vi g.2.2.1))]) (fun g=>[]++(g.2.2.2++A)) (fun g R=>l6 N σ B p0_ g.1 g.2.1 g.2.2.1=some Y∧I g.2.1 R g.2.2.2∧True) (fun g=>g.1) (N,s0,0,O) prm ⟨c,h0,trivial⟩ ?_))));clear c
 rintro⟨P,x6,d,k⟩ af R8 h ⟨c,l,_⟩;rcases P with _|P;exact qp c;replace c:l6 N σ B p0_ (P+1) x6 d=some Y:=c;rw [l6] at c;refine zl (zo (j3 rfl rfl) (z8 (q9 (zw rfl c (fun c=>?_) (fun c=>?_)))));refine qa ?_;obtain⟨t,b,c⟩:=zq c
 refine ql (γ:=σ×(List Frag)) (rs [3,7,12,30]) (fun g=>[]) (fun g=>[]++(g.2++A)) (fun g R=>t=Ex.go g.1∧I g.1 R g.2∧True) ?_ ?_;refine zx (zl (zg (vi d) ?_));obtain⟨E,b⟩:=zb b;refine kw (i:=d.toNat) rfl z7n rfl (qz (Z.mono h)) (ze rfl E.1) (zz E) fun ag Q=>?_
 refine qh rfl z7i rfl Q fun F G=>?_
 refine zi (vi d) (zi F (qw (zg F (zo (qi rfl underlying97 rfl (qz G)) (zg (vi 0) (z8 (zx (j5 (γ:=Nat×σ×Int×(List Frag)) (rs [5,7,17,30]) (fun g=>[(17,(vi g.2.2.1))]) (fun g=>[]++(g.2.2.2++A)) (fun g R=>ig N σ B p0_ d g.1 g.2.1 g.2.2.1=some t∧I g.2.1 R g.2.2.2∧True) (fun g=>g.1) (N,x6,0,k) prm ⟨b,l,trivial⟩ ?_))))))))
 clear b;rintro⟨j,u,a,m⟩ ah ai f ⟨b,n,_⟩;rcases j with _|j;exact qp b;replace b:ig N σ B p0_ d (j+1) u a=some t:=b;rw [ig] at b;refine zl (zo (j3 rfl rfl) (z8 (q9 (zw rfl b (fun b=>?_) (fun b=>?_)))))
 refine qa (q9 (zx (zl (zg (vi a) ?_))));obtain⟨H,b⟩:=zb b;refine kw (i:=a.toNat) rfl z8x rfl (qz (G.mono f)) (ze rfl H.1) (zz H) fun aj S=>?_;refine qh rfl z7k rfl S fun ak T=>?_;obtain rfl:=ax.1 T;refine um rfl z6v fun y=>?_
 refine zi (vi a) (jo (i:=0) (vs:=[(vi ((ix (ix p0_.rows d) a).to)),(vi ((ix (ix p0_.rows d) a).out))]) z4o rfl rfl rfl rfl rfl rfl (qf rfl (qf rfl jq)) ?_)
 refine qw (zg yv (zg (vi d) (zg (vi a) (zo (yn (ps:=[(0,(vi d)),(1,(vi a))]) (v:=(.agg #[(vi d),(vi a)])) rfl (fun w=>by kernel_rfl)) (zo (wu (i:=0) znl z4o rfl rfl rfl rfl) ?_)))));obtain⟨z,U,b⟩:=zq b
 refine zj3 (vs:=[(.agg #[(vi d),(vi a)]),(.agg #[(vi ((ix (ix p0_.rows d) a).to)),(vi ((ix (ix p0_.rows d) a).out))])]) (J:=[box y [(vi ((ix (ix p0_.rows d) a).to)),(vi ((ix (ix p0_.rows d) a).out))] 100]) (Oc:=m) (A:=A) rfl rfl rfl rfl (hy (((d,a):(Int×Int)),(⟨(ix (ix p0_.rows d) a).to,(ix (ix p0_.rows d) a).out⟩:Edge)) u z.1 z.2 _ _ [(.agg #[(vi d),(vi a)]),(.agg #[(vi ((ix (ix p0_.rows d) a).to)),(vi ((ix (ix p0_.rows d) a).out))])] (h.trans f) rfl n U) fun al o p q=>?_
 refine zo (z0g rfl) (z8 (zw rfl b (fun b=>?_) (fun b=>?_)));refine qx ?_;replace c:=z3k b c;obtain rfl:=Option.some.inj c
 refine z1c (D:=[]) (J:=[box y [(vi ((ix (ix p0_.rows d) a).to)),(vi ((ix (ix p0_.rows d) a).out))] 100]) (O':=o) (rs:=[]) (vs:=[]) ((h.trans f).trans p) (List.Perm.refl _) rfl trivial ?_;exact q;refine qa (zy ?_);obtain⟨V,b⟩:=zb b;refine zo (j4 rfl rfl V) (zg (vi (a+1)) (z8 ?_))
 exact⟨dkt,p,je,(j,z.2,a+1,o),Nat.lt_succ_self _,⟨rfl,trivial⟩,⟨[box y [(vi ((ix (ix p0_.rows d) a).to)),(vi ((ix (ix p0_.rows d) a).out))] 100],(List.Perm.refl _)⟩,b,q,trivial⟩;refine jd ?_;exact⟨dkt,f,je,(u,m),trivial,prm,(Option.some.inj b).symm,n,trivial⟩;rintro⟨W,K⟩ am an L ⟨rfl,M,_⟩
 replace c:=z4x c;refine zy ?_;obtain⟨X,c⟩:=zb c;refine zo (j4 rfl rfl X) (zg (vi (d+1)) (z8 ?_));exact⟨dkt,L,je,(P,W,d+1,K),Nat.lt_succ_self _,⟨rfl,trivial⟩,prm,c,M,trivial⟩;refine jd ?_;show zc0 _ _ _ _ _ .ret _ [] _ _;obtain rfl:=Option.some.inj c
 refine z1c (D:=[]) (J:=[]) (O':=k) (rs:=[]) (vs:=[]) h (List.Perm.refl _) rfl trivial ?_;exact l
theorem q94:Enters prog 116:=enters_of func116 rfl (by kernel_rfl)
theorem qap: ∀ w,∃ z,(zeroValue 68).run prog w= .ok z w∧z.cells=([.int .i64 0,.int .i64 0]:List Value).toArray:=fun w=>⟨(.agg #[(vi 0),(vi 0)]),by kernel_rfl,rfl⟩
theorem q5w: ∀ w,(sizeOf 68).run prog w= .ok 2 w:=fun w=>by kernel_rfl
theorem q4o: ∀ w,(isAgg 37).run prog w= .ok false w:=fun w=>by kernel_rfl
theorem qal: ∀ w,(isAgg 68).run prog w= .ok true w:=fun w=>by kernel_rfl
theorem q1m:ZeroOk prog 68 kA2tInti64 (((0:Int),(0:Int)):(Int×Int)) 16:=by
 obtain⟨i,zv,hi,a,c,d,f⟩:=z6d (P:=prog) (e:=68) (zv:=(.agg #[(vi 0),(vi 0)])) (k:=2) (b:=16) (by kernel_rfl);exact⟨i,zv,hi,a,c,d,fun R=>by subst f;exact⟨_,_,rfl,rfl,rfl⟩⟩
theorem q6c: ∀ w,(sizeOf 37).run prog w= .ok 1 w:=fun w=>by kernel_rfl
theorem q7i:TyOk prog 68 kA2tInti64:=by
 obtain⟨i,hi,a⟩: ∃ i,prog.info? 68=some i∧i.size=2:=jr (by kernel_rfl);exact z2n underlying68 hi rfl a
theorem q7p:SlOk prog 37 68 kA2tInti64:=⟨underlying37,q7i⟩
theorem z9w{N:Nat}{R:RH}{s:(List (Int×Int))}{a:Value}(b:VRep (tSl false kA2tInti64) R a s){r:(List (Int×Int))}(c:z0m N s=some r):CallP prog 23 #[a] R (fun v R'=>VRep (tSl true kA2tInti64) R' v r):=by
 refine qg (args:=[a]) func23 rfl rfl fun A=>?_;rw [z0m] at c;refine zl (zi vs0 (qw (zg a (zg a (zo (qi rfl underlying37 rfl (qz b)) (zg a (zo (qi rfl underlying37 rfl (qz b)) ?_)))))));obtain⟨d,c⟩:=zb c
 refine zb3 (v:=a) (lo:=(0:Int).toNat) (hi:=(↑s.length:Int).toNat) (mx:=(↑s.length:Int).toNat) rfl q7p rfl (qz b) (.inl ⟨rfl,rfl⟩) (.inr ⟨_,congrArg some (ze rfl (ze0 d))⟩) (.inr ⟨_,congrArg some (ze rfl (ze0 d))⟩) (zgd d) (z8h d) (Nat.le_refl _) (Nat.le_trans (z8h d) (zt4 (qz b))) (X':=(cut s 0 (↑s.length:Int))) rfl fun f g e=>?_
 have h:VRep (tSl true kA2tInti64) R f (cut s 0 (↑s.length:Int)):=z1d g (e.trans (zl9 d).symm);refine zi f (z8 (qx ?_));obtain rfl:=Option.some.inj c;refine qd (D:=[]) (J:=[]) (rs:=[.tmp 2]) (vs:=[f]) (RH.le.refl _) rfl rfl ⟨rfl,trivial⟩ ?_;exact⟨rfl,h⟩
theorem q8r:Enters prog 23:=enters_of func23 rfl (by kernel_rfl)
theorem zen{N:Nat}{R:RH}{m:Mach}{t:Value}(u:VRep (ja false false) R t m){r:(List (Int×Int))}(d:z3x N m=some r):CallP prog 104 #[t] R (fun v R'=>VRep (tSl true kA2tInti64) R' v r):=by
 refine qg (args:=[t]) func104 rfl rfl fun A=>?_;rw [z3x] at d;refine zl (jy (T:=(ja false false)) rfl rfl rfl u fun v1 R3 w h5 h2=>?_);refine zi vs0 (qw (um rfl qbu fun E=>?_));refine z8 (q9 (zl (zo (jg rf rfl rfl h5 (u.mono w)) ?_)));obtain⟨y8,c9,d⟩:=zq d
 refine jc rfl q8g rfl (zk2 (u.mono w) c9) fun aC aD F U=>?_;obtain⟨aE,rfl,V⟩:=U;refine z8 (zx (z1g ?_));obtain⟨W,Z,d⟩:=zq d
 refine znh (Oc:=[emp,box E [vs0] 37]) (Or:=A) _ (fun(s:List (Int×Int)) R O=> ∃ (e:Value) (f:Frag),(∃ J,O.Perm (J++[box E [e] 37,f]))∧ORep kA2tInti64 R f e s∧True) (fun(s:List (Int×Int)) (c:Code) R O=>False) _ _ rfl q94 (zh1 (N:=N) V) (List.Perm.refl _) (by decide) (by rintro _ _ _ rfl;rfl) (by rintro s R2 R3 O2 n ⟨e,f,G,o,_⟩;exact⟨e,f,G,o.mono n,trivial⟩) (fun _ _ _ _ _ _ h=>h) (fun _ _ _ _ _ h=>h.elim) ⟨vs0,emp,⟨[],(pk 1 rfl (pk 0 rfl (List.Perm.refl _)))⟩,(iy (T:=kA2tInti64)),trivial⟩ Z ?_ ?_ ?_
 rintro a aa aF aG ar aH av aw ax H ⟨e,f,⟨_,G⟩,o,_⟩ p aI;have b:=p;clear p;(try dsimp only at b);refine ziu (zlg G) ?_;obtain rfl:=H;refine zl (um rfl qap fun j=>?_);refine jo (i:=0) (vs:=[(vi a.1.1),(vi a.1.2)]) q5w rfl rfl rfl rfl rfl rfl (qf rfl (qf rfl jq)) ?_
 refine z8 (zy (um rfl z6v fun k=>?_));refine jo (i:=0) (vs:=[(vi a.2.to),(vi a.2.out)]) z4o rfl rfl rfl rfl rfl rfl (qf rfl (qf rfl jq)) ?_;refine z8 ?_
 refine⟨rfl,rfl,(RH.le.refl _),[box k [(vi a.2.to),(vi a.2.out)] 100,box j [(vi a.1.1),(vi a.1.2)] 68,box E [e] 37,f],List.Perm.refl _,fun aJ=>?_⟩;refine zx (q9 ?_);obtain⟨x,ab,b⟩:=zq b
 refine p8 3 [] [phX (.agg #[(vi a.2.to),(vi a.2.out)]),phX (z0s x),phX (.bool (decide (a.2.to=x.to∧a.2.out=x.out)))] mixed (by kernel_rfl) (vw ⟨zh,zh,zh,trivial⟩) ⟨?_,?_,?_,trivial⟩ fun aK g=>?_;intro l aL n ha hd;exact za rfl rfl rfl (zn (wu (i:=0) znl z4o (ha 5 rfl) rfl rfl rfl))
 intro l aN n ha hd;exact za rfl rfl rfl (ww (vs:=[]) q66 rfl (zak  ab) (fun _ _ h=>h));rintro l aO n ha ⟨d0,d1,_⟩;exact za rfl rfl rfl (zn (zsh q5n (d0 rfl) (d1 rfl)));intro aR ad aS ae aT af;obtain rfl:=Eq.symm ad;obtain rfl:=Eq.symm ae;obtain rfl:=Eq.symm af;refine z8 (zw rfl b (fun b=>?_) (fun b=>?_))
 refine zy (zo (qb (i:=2) q4o rfl rfl rfl) (zo (wu (i:=1) qal q5w rfl rfl rfl rfl) (mf (T:=kA2tInti64) (X:=([((a.1.1,a.1.2):(Int×Int))]:List (Int×Int))) (ps:=[(0,(.agg #[(vi a.1.1),(vi a.1.2)]))]) (css:=[[(vi a.1.1),(vi a.1.2)]]) rfl underlying37 q1m rfl rfl (kv ⟨⟨_,_,rfl,rfl,rfl⟩,trivial⟩) rfl rfl (by decide) fun ag aU y ah=>?_)))
 refine ui (i:=0) rfl ah fun ai q aj=>?_;have ak:VRep (tSl true kA2tInti64) ai ag ([((a.1.1,a.1.2):(Int×Int))]:List (Int×Int)):=(z1d aj y);obtain⟨I,b⟩:=zb b
 refine wh (i:=3) (X:=aa) (Y:=([((a.1.1,a.1.2):(Int×Int))]:List (Int×Int))) rfl underlying37 q1m rfl rfl rfl (o.mono (g.trans q)) (qz (Sub.v (B:=(tSl false kA2tInti64)) (u6 Sub.refl (fun _=>rfl)) ak)) I.1 I.2 fun z K C=>?_
 refine jo (i:=2) (vs:=[z]) q6c rfl rfl (au C) rfl rfl rfl (qf (wz C) jq) ?_;refine z8 ?_;obtain⟨rfl,rfl⟩:=Prod.mk.inj (Option.some.inj b)
 exact⟨rfl,(g.trans q),[box k [(vi a.2.to),(vi a.2.out)] 100,box j [(vi a.1.1),(vi a.1.2)] 68,box E [z] 37,K],List.Perm.refl _,rfl,⟨z,K,⟨[box k [(vi a.2.to),(vi a.2.out)] 100,box j [(vi a.1.1),(vi a.1.2)] 68],(List.Perm.refl _)⟩,C,trivial⟩⟩;refine qa ?_
 obtain⟨rfl,rfl⟩:=Prod.mk.inj (Option.some.inj b)
 exact⟨rfl,g,[box k [(vi a.2.to),(vi a.2.out)] 100,box j [(vi a.1.1),(vi a.1.2)] 68,box E [e] 37,f],List.Perm.refl _,rfl,⟨e,f,⟨[box k [(vi a.2.to),(vi a.2.out)] 100,box j [(vi a.1.1),(vi a.1.2)] 68],(List.Perm.refl _)⟩,(o.mono g),trivial⟩⟩
 rintro aV aW ay L ⟨M,aX,⟨_,G⟩,al,_⟩;refine⟨_,_,G,?_⟩;refine zl (zo (qb (i:=0) q4o rfl rfl rfl) (ui (i:=1) rfl al fun am P an=>?_));have ao:VRep (tSl false kA2tInti64) am M W:=(z3g an);obtain⟨aY,ap,d⟩:=zq d;refine jc rfl q8r rfl (z9w ao ap) fun Q aZ S aq=>?_
 refine zi Q (z8 (qx ?_));obtain rfl:=Option.some.inj d;refine qd (D:=[]) (J:=[box E [M] 37]) (rs:=[.tmp 2]) (vs:=[Q]) ((((w.trans F).trans L).trans P).trans S) rfl rfl ⟨rfl,trivial⟩ ?_;exact⟨rfl,aq⟩;exact fun _ _ _ _ _ h=>h.elim
theorem q8c:Enters prog 104:=enters_of func104 rfl (by kernel_rfl)
theorem zg2{N:Nat}{R:RH}{m:Mach}{e:Value}(d:VRep (ja false false) R e m){r:Bool×Int}(a:z4s N m=some r):CallP prog 95 #[e] R (fun v R'=>v= .tuple #[(.bool r.1),(vi r.2)]):=by
 refine qg (args:=[e]) func95 rfl rfl fun A=>?_;rw [z4s] at a;refine zl (jy (T:=(ja false false)) rfl rfl rfl d fun s t c k u=>?_);refine zi (.bool false) (zi (vi 0) (z8 (q9 (zl (zo (jg rf rfl rfl k (d.mono c)) ?_)))));obtain⟨f,l,a⟩:=zq a
 refine jc rfl zxy rfl (z3o (d.mono c) l) fun w n b o=>?_;obtain rfl:=o;refine zi (vi f) (qw (zg (vi f) (zo (xx rfl rfl) (z8 (zw rfl a (fun a=>?_) (fun a=>?_))))));refine zl (zg (vi f) (zi (.bool false) (zi (vi f) (z8 (qx ?_)))));obtain rfl:=Option.some.inj a
 refine qd (D:=[]) (J:=[]) (rs:=[.tmp 2,.tmp 3]) (vs:=[(.bool false),(vi f)]) (c.trans b) rfl rfl ⟨rfl,rfl,trivial⟩ ?_;exact⟨rfl,rfl⟩;refine qa (zl (zo (jg rf rfl rfl (k.mono b) (d.mono (c.trans b))) ?_));obtain⟨g,i,a⟩:=zq a
 refine jc rfl q8c rfl (zen (d.mono (c.trans b)) i) fun p q h j=>?_;refine zo (qi rfl underlying37 rfl (qz j)) (zo (iw rfl rfl) (zi (.bool (decide ((↑g.length:Int)=0))) (zi (vi 0) (z8 (qx ?_)))));obtain rfl:=Option.some.inj a
 refine qd (D:=[]) (J:=[]) (rs:=[.tmp 2,.tmp 3]) (vs:=[(.bool (decide ((↑g.length:Int)=0))),(vi 0)]) ((c.trans b).trans h) rfl rfl ⟨rfl,rfl,trivial⟩ ?_;exact⟨rfl,rfl⟩
theorem qab:Enters prog 95:=enters_of func95 rfl (by kernel_rfl)
theorem zg6{N:Nat}{R:RH}{p0_:Mach}{a:Value}(c:PRep (ja false false) R a p0_){r:Bool}(b:z4l N p0_=some r):CallP prog 94 #[a] R (fun v R'=>v=(.bool r)):=by
 refine qg (args:=[a]) func94 rfl rfl fun A=>?_;rw [z4l] at b;refine zl (zi (.bool false) (qw (qh rfl rf rfl c fun i f=>?_)));obtain⟨d,g,b⟩:=zq b;refine jc rfl qab rfl (zg2 f g) fun j k e h=>?_;obtain rfl:=h
 refine zg (.tuple #[(.bool d.1),(vi d.2)]) (zo (ky rfl rfl) (zo (ky rfl rfl) (zi (.bool d.1) (zi (vi d.2) (qw (zg (.bool d.1) (zi (.bool d.1) (z8 (qx ?_)))))))));obtain rfl:=Option.some.inj b;refine qd (D:=[]) (J:=[]) (rs:=[.tmp 1]) (vs:=[(.bool d.1)]) e rfl rfl ⟨rfl,trivial⟩ ?_;exact⟨rfl,rfl⟩
theorem qar:Enters prog 94:=enters_of func94 rfl (by kernel_rfl)
theorem zqu:FieldOk prog 132 0 0:=by
 obtain⟨i,hi,a⟩: ∃ i,prog.info? 40=some i∧i.size=1:=jr (by kernel_rfl);exact uj underlying132 rfl rfl hi (by rw [a];rfl)
theorem q7l: ∀ w,(isAgg 40).run prog w= .ok false w:=fun w=>by kernel_rfl
theorem q7u: ∀ w,∃ z,(zeroValue 64).run prog w= .ok z w∧z.cells=([.slice none 0 0]:List Value).toArray:=fun w=>⟨vs0,by kernel_rfl,rfl⟩
theorem q8a: ∀ w,(sizeOf 64).run prog w= .ok 1 w:=fun w=>by kernel_rfl
theorem qbz: ∀ w,∃ z,(zeroValue 83).run prog w= .ok z w∧z.cells=([.nilFunc]:List Value).toArray:=fun w=>⟨.nilFunc,by kernel_rfl,rfl⟩
theorem qbd: ∀ w,(sizeOf 83).run prog w= .ok 1 w:=fun w=>by kernel_rfl
theorem q9k: ∀ w,(isAgg 83).run prog w= .ok false w:=fun w=>by kernel_rfl
theorem ziy: ∀ w,(isAgg 64).run prog w= .ok false w:=fun w=>by kernel_rfl
theorem q5h:Enters prog 105:=enters_of func105 rfl (by kernel_rfl)
theorem zb7{N:Nat}(F:Nat): ∀ {R:RH} {s:Int} {a:Nat} {p0_:List Bool} {e:Value} {fBa:Frag} (f:ORep jl R fBa e p0_) {p1_:Mach} {d:Value} (k:PRep (ja false false) R d p1_) {b:Nat} {r:List Bool} (c:nu N F s p0_ p1_=some r),CallG prog 105 #[(vi s),(.pointer (some ⟨a,0,none⟩)),d,(.pointer (some ⟨b,0,none⟩))] R [box a [e] 64,fBa,box b [.func (.func 105) #[] #[(.pointer (some ⟨a,0,none⟩)),d,(.pointer (some ⟨b,0,none⟩))]] 83] (fun v R' O'=> ∃ l m,v= .tuple #[]∧O'=[box a [l] 64,m,box b [.func (.func 105) #[] #[(.pointer (some ⟨a,0,none⟩)),d,(.pointer (some ⟨b,0,none⟩))]] 83]∧ORep jl R' m l r):=by
  induction F with
  |zero=>intros;rename_i c;exact qp c
  |succ F ih=>
    intro R s a p0_ e fBa f p1_ d k b r c
    refine z1e (args:=[(vi s),(.pointer (some ⟨a,0,none⟩)),d,(.pointer (some ⟨b,0,none⟩))]) func105 rfl rfl fun A=>?_
    rw [nu] at c
    refine q9 ?_
    refine q9 ?_
    refine zy ?_
    refine u7 (v:=(vi s)) rfl (zf rfl) ?_
    refine u7 rfl (iw rfl rfl) ?_
    refine u7 (v:=(.bool (decide (s=(-1))))) rfl (zf rfl) ?_
    refine jf rfl rfl rfl rfl (fun o=>jh (v:=e) (qb (i:=0) ziy rfl rfl rfl)) fun v7 h8=>?_
    refine jf rfl rfl rfl rfl (fun o=>jh (v:=(vi s)) (zf rfl)) fun v9 G=>?_
    obtain⟨q,c⟩:=zb c
    refine jf rfl rfl rfl rfl (fun o=>z3p (i:=s.toNat) z4p (h8.1 (zt rfl o)) f (ze (G.1 (zt rfl o)) (q (zt rfl o)).1) (zz (q (zt rfl o)))) fun ae H=>?_
    refine jf rfl rfl rfl rfl (fun o=>jh (z6x (zbf (i:=s.toNat) (j:=1) ty4 f rfl rfl (H.1 (zt rfl o)) (zz (q (zt rfl o)))))) fun af I=>?_
    refine u7 rfl (z0v rfl rfl (fun hb=>(I.1 (zt rfl hb)))) ?_
    refine z8 ?_
    refine zw rfl c (fun c=>?_) (fun c=>?_)
    · refine qx ?_
      obtain rfl:=Option.some.inj c
      refine z1c (D:=[]) (J:=[]) (O':=[box a [e] 64,fBa,box b [(.func (.func 105) #[] #[(.pointer (some ⟨a,0,none⟩)),d,(.pointer (some ⟨b,0,none⟩))])] 83]) (rs:=[]) (vs:=[]) (RH.le.refl _) ((pk 0 rfl (pk 0 rfl (pk 0 rfl (List.Perm.refl _))))) rfl trivial ?_
      exact⟨e,fBa,rfl,rfl,f⟩
    · refine qa ?_
      refine q9 ?_
      refine zy ?_
      refine zo (qb (i:=0) ziy rfl rfl rfl) ?_
      refine zg (vi s) ?_
      obtain⟨t,c⟩:=zb c
      refine uz (i:=s.toNat) rfl z4p rfl f (ze rfl t.1) (zz t) fun ah K=>?_
      refine ay (i:=s.toNat) (j:=1) ty4 f rfl rfl K (zz t) rfl (ul.2 rfl) fun L M=>?_
      refine z8 ?_
      refine q9 ?_
      refine zy ?_
      refine jb rfl ug ko rfl k fun ai O=>?_
      refine qh rfl z0c rfl O fun aj P=>?_
      refine zg (vi s) ?_
      obtain⟨x,c⟩:=zb c
      refine kw (i:=s.toNat) rfl z7n rfl (qz P) (ze rfl x.1) (zz x) fun ak Q=>?_
      refine qh rfl z7i rfl Q fun al y=>?_
      refine zo (qi rfl underlying97 rfl (qz y)) ?_
      refine zg (vi 0) ?_
      refine z8 ?_
      refine zx ?_
      refine j5 (γ:=Nat×Int×(List Bool)×Value×Frag) (rs [6,7,24,33]) (fun g=>[(24,(vi g.2.1))]) (fun g=>[box b [(.func (.func 105) #[] #[(.pointer (some ⟨a,0,none⟩)),d,(.pointer (some ⟨b,0,none⟩))])] 83,box a [g.2.2.2.1] 64,g.2.2.2.2]++A) (fun g R=>og N (nu N F) s p1_ g.1 g.2.1 g.2.2.1=some r∧ORep jl R g.2.2.2.2 g.2.2.2.1 g.2.2.1∧True) (fun g=>g.1) (N,0,(up p0_ s true),e,L) ⟨[],(pk 2 rfl (pk 0 rfl (pk 0 rfl (List.Perm.refl _))))⟩ ⟨c,M,trivial⟩ ?_
      clear c
      rintro⟨p,h,S,u,w⟩ am an n ⟨c,z,_⟩
      rcases p with _|p
      · exact qp c
      replace c:og N (nu N F) s p1_ (p+1) h S=some r:=c;rw [og] at c
      refine q9 ?_
      refine zy ?_
      refine zo (j3 rfl rfl) ?_
      refine z8 ?_
      refine q9 ?_
      refine zw rfl c (fun c=>?_) (fun c=>?_)
      · refine qa ?_
        refine q9 ?_
        refine zx ?_
        refine q9 ?_
        refine zy ?_
        obtain⟨B,c⟩:=zb c
        refine kw (i:=h.toNat) rfl z8x rfl (qz (y.mono n)) (ze rfl B.1) (zz B) fun ao T=>?_
        refine qh rfl z7k rfl T fun ap U=>?_
        obtain rfl:=ax.1 U
        refine um rfl z6v fun C=>?_
        refine jo (i:=0) (vs:=[(vi ((ix (ix p1_.rows s) h).to)),(vi ((ix (ix p1_.rows s) h).out))]) z4o rfl rfl rfl rfl rfl rfl (qf rfl (qf rfl jq)) ?_
        refine z8 ?_
        refine zy ?_
        refine zo (qb (i:=1) q9k rfl rfl rfl) ?_
        refine zo (q8 yo rfl) ?_
        refine zo (qb (i:=0) ag3 rfl rfl rfl) ?_
        obtain⟨V,W,c⟩:=zq c
        refine z1q (Oc:=[box a [u] 64,w,box b [(.func (.func 105) #[] #[(.pointer (some ⟨a,0,none⟩)),d,(.pointer (some ⟨b,0,none⟩))])] 83]) (Or:=[box C [(vi ((ix (ix p1_.rows s) h).to)),(vi ((ix (ix p1_.rows s) h).out))] 100]++A) (cs:=[(.pointer (some ⟨a,0,none⟩)),d,(.pointer (some ⟨b,0,none⟩))]) (vs:=[(vi ((ix (ix p1_.rows s) h).to))]) rfl q5h rfl rfl ((pk 2 rfl (pk 2 rfl (pk 1 rfl (pk 0 rfl (List.Perm.refl _)))))) (ih z (k.mono n) W) fun aq ar ac E X=>?_
        obtain⟨Y,Z,rfl,rfl,aa⟩:=X
        refine z8 ?_
        refine zy ?_
        obtain⟨ab,c⟩:=zb c
        refine zo (j4 rfl rfl ab) ?_
        refine zg (vi (h+1)) ?_
        refine z8 ?_
        exact⟨dkt,E,je,(p,h+1,V,Y,Z),Nat.lt_succ_self _,⟨rfl,trivial⟩,⟨[box C [(vi ((ix (ix p1_.rows s) h).to)),(vi ((ix (ix p1_.rows s) h).out))] 100],(pk 3 rfl (pk 2 rfl (pk 0 rfl (pk 0 rfl (List.Perm.refl _)))))⟩,c,aa,trivial⟩
      · refine jd ?_
        show zc0 _ _ _ _ _ .ret _ [] _ _
        obtain rfl:=Option.some.inj c
        refine z1c (D:=[]) (J:=[]) (O':=[box a [u] 64,w,box b [(.func (.func 105) #[] #[(.pointer (some ⟨a,0,none⟩)),d,(.pointer (some ⟨b,0,none⟩))])] 83]) (rs:=[]) (vs:=[]) n ((pk 1 rfl (pk 1 rfl (pk 0 rfl (List.Perm.refl _))))) rfl trivial ?_
        exact⟨u,w,rfl,rfl,z⟩
theorem zdy{N:Nat}{R:RH}{s:Int}{a:Nat}{p0_:List Bool}{d:Value}{fBa:Frag}(g:ORep jl R fBa d p0_){p1_:Mach}{c:Value}(h:PRep (ja false false) R c p1_){b:Nat}{r:List Bool}(i:nu N N s p0_ p1_=some r):CallG prog 105 #[(vi s),(.pointer (some ⟨a,0,none⟩)),c,(.pointer (some ⟨b,0,none⟩))] R [box a [d] 64,fBa,box b [.func (.func 105) #[] #[(.pointer (some ⟨a,0,none⟩)),c,(.pointer (some ⟨b,0,none⟩))]] 83] (fun v R' O'=> ∃ e f,v= .tuple #[]∧O'=[box a [e] 64,f,box b [.func (.func 105) #[] #[(.pointer (some ⟨a,0,none⟩)),c,(.pointer (some ⟨b,0,none⟩))]] 83]∧ORep jl R' f e r):=zb7 N g h i
theorem zg1{N:Nat}{R:RH}{s:(List Bool)}{c:Value}(h:VRep (tSl false jl) R c s){f:Bool}{r:Int}(b:z4r N s f=some r):CallP prog 111 #[c,(.bool f)] R (fun v R'=>v=(vi r)):=by
 refine qg (args:=[c,(.bool f)]) func111 rfl rfl fun A=>?_;rw [z4r] at b;refine zl (zi (vi 0) (z8 ?_));obtain⟨l,a,b⟩:=zq b;refine ql (γ:=Unit) (rs [4,19]) (fun g=>[]) (fun g=>[]++A) (fun g R=>l=Ex.go g∧True) ?_ ?_
 refine zl (zg c (zo (qi rfl underlying64 rfl (qz h)) (zg (vi 0) (z8 (zx (j5 (γ:=Nat×Int) (rs [4,6,8,19]) (fun g=>[(8,(vi g.2))]) (fun g=>[]++A) (fun g R=>aj N s f g.1 g.2=some l∧True) (fun g=>g.1) (N,0) prm ⟨a,trivial⟩ ?_))))));clear a;rintro⟨k,d⟩ q x e ⟨a,_⟩;rcases k with _|k
 exact qp a;replace a:aj N s f (k+1) d=some l:=a;rw [aj] at a;refine zl (zo (j3 rfl rfl) (z8 (q9 (zw rfl a (fun a=>?_) (fun a=>?_)))));refine qa (q9 (zx (zl (zg (vi d) (zi (vi d) (qw (zg (.bool f) (zg c (zg (vi d) ?_)))))))))
 obtain⟨j,a⟩:=zb a;refine kw (i:=d.toNat) rfl z4p rfl (qz (h.mono e)) (ze rfl j.1) (zz j) fun t m=>?_;refine qh rfl ty4 rfl m fun u n=>?_;obtain rfl:=ul.1 n;refine zo (q19 underlying4 rfl rfl) (z8 (zw rfl a (fun a=>?_) (fun a=>?_)))
 refine zl (zg (vi d) (zi (vi d) (z8 (qx ?_))));replace b:=z3k a b;obtain rfl:=Option.some.inj b;refine qd (D:=[]) (J:=[]) (rs:=[.tmp 4]) (vs:=[(vi d)]) e rfl rfl ⟨rfl,trivial⟩ ?_;exact⟨rfl,rfl⟩;refine qa (zy ?_);obtain⟨o,a⟩:=zb a
 refine zo (j4 rfl rfl o) (zg (vi (d+1)) (z8 ?_));exact⟨dkt,(RH.le.refl _),je,(k,d+1),Nat.lt_succ_self _,⟨rfl,trivial⟩,prm,a,trivial⟩;refine jd ?_;exact⟨dkt,e,je,(),trivial,prm,(Option.some.inj a).symm,trivial⟩;rintro y w z p ⟨rfl,_⟩;replace b:=z4x b;refine zl (zi (vi (-1)) (z8 (qx ?_)))
 obtain rfl:=Option.some.inj b;refine qd (D:=[]) (J:=[]) (rs:=[.tmp 4]) (vs:=[(vi (-1))]) p rfl rfl ⟨rfl,trivial⟩ ?_;exact⟨rfl,rfl⟩
theorem q9e:Enters prog 111:=enters_of func111 rfl (by kernel_rfl)
theorem zdx{N:Nat}{R:RH}{s:(List Bool)}{a:Value}(d:VRep (tSl false jl) R a s){c:Bool}{r:Bool}(b:z2f N s c=some r):CallP prog 106 #[a,(.bool c)] R (fun v R'=>v=(.bool r)):=by
 refine qg (args:=[a,(.bool c)]) func106 rfl rfl fun A=>?_;rw [z2f] at b;refine zl (zi (.bool false) (qw (zg a (zg (.bool c) ?_))));obtain⟨f,g,b⟩:=zq b;refine jc rfl q9e rfl (zg1 d g) fun i j e h=>?_;obtain rfl:=h
 refine zo (z10 rfl rfl) (zi (.bool (decide (0≤f))) (z8 (qx ?_)));obtain rfl:=Option.some.inj b;refine qd (D:=[]) (J:=[]) (rs:=[.tmp 4]) (vs:=[(.bool (decide (0≤f)))]) e rfl rfl ⟨rfl,trivial⟩ ?_;exact⟨rfl,rfl⟩
theorem q7w:Enters prog 106:=enters_of func106 rfl (by kernel_rfl)
theorem z9z{N:Nat}{R:RH}{m:Mach}{h:Value}(j:VRep (ja false false) R h m){r:Bool×Int}(a:z1v N m=some r):CallP prog 97 #[h] R (fun v R'=>v= .tuple #[(.bool r.1),(vi r.2)]):=by
 refine qg (args:=[h]) func97 rfl rfl fun A=>?_;rw [z1v] at a;refine zl (jy (T:=(ja false false)) rfl rfl rfl j fun o Z f O L=>?_);refine zi (.bool false) (zi (vi 0) (z8 (q9 (zl (zo (jg rf rfl rfl O (j.mono f)) ?_)))));obtain⟨p,P,a⟩:=zq a
 refine jc rfl zxy rfl (z3o (j.mono f) P) fun v8 Q e S=>?_;obtain rfl:=S;refine zi (vi p) (qw (zg (vi p) (zo (xx rfl rfl) (z8 (zw rfl a (fun a=>?_) (fun a=>?_))))));refine zl (zg (vi p) (zi (.bool false) (zi (vi p) (z8 (qx ?_)))));obtain rfl:=Option.some.inj a
 refine qd (D:=[]) (J:=[]) (rs:=[.tmp 2,.tmp 3]) (vs:=[(.bool false),(vi p)]) (f.trans e) rfl rfl ⟨rfl,rfl,trivial⟩ ?_;exact⟨rfl,rfl⟩;refine qa (zl (jb rfl ug ko rfl (L.mono e) fun U w=>?_));refine qh rfl z0c rfl w fun V x=>?_;refine zo (qi rfl underlying30 rfl (qz x)) ?_
 obtain⟨g,a⟩:=zb a;refine z2p (T:=jl) (m:=(↑m.rows.length:Int).toNat) (c:=(↑m.rows.length:Int).toNat) rfl underlying64 zo4 (ze rfl g.1) (ze rfl g.1) (Nat.le_refl _) (z3h g) (z3m g) fun q y z k=>?_;refine um rfl q7u fun b=>?_
 refine jo (i:=0) (vs:=[q]) q8a rfl rfl (au k) rfl rfl rfl (qf (wz k) jq) ?_;refine qw (um rfl qbz fun d=>?_)
 refine qw (zo (lw (fs:=[]) (cs:=[(.pointer (some ⟨b,0,none⟩)),o,(.pointer (some ⟨d,0,none⟩))]) rfl rfl) (jo (i:=0) (vs:=[(.func (.func 105) #[] #[(.pointer (some ⟨b,0,none⟩)),o,(.pointer (some ⟨d,0,none⟩))])]) qbd rfl rfl rfl rfl rfl rfl (qf rfl jq) ?_));refine qw (zo (qb (i:=0) q9k rfl rfl rfl) ?_)
 obtain⟨B,C,a⟩:=zq a
 refine z1q (Oc:=[box b [q] 64,y,box d [(.func (.func 105) #[] #[(.pointer (some ⟨b,0,none⟩)),o,(.pointer (some ⟨d,0,none⟩))])] 83]) (Or:=[]++A) (cs:=[(.pointer (some ⟨b,0,none⟩)),o,(.pointer (some ⟨d,0,none⟩))]) (vs:=[(vi 0)]) rfl q5h rfl rfl ((pk 1 rfl (pk 1 rfl (pk 0 rfl (List.Perm.refl _))))) (zdy k (L.mono e) C) fun W X M s E=>?_
 obtain⟨l,F,rfl,rfl,G⟩:=E;refine qw (zo (qb (i:=0) ziy rfl rfl rfl) ?_);obtain⟨n,H,a⟩:=zq a;refine zq5 (cs:=[]) (vs:=[l,(.bool false)]) (φ:=fun v=>v=(.bool n)) rfl q7w rfl rfl (fun I t u=>zdx (z3g ((zdc 1 rfl G t u):VRep (yx jl) I l B)) H) fun Y K=>?_
 obtain rfl:=K;refine zo (z0g rfl) (zi (.bool (!n)) (zi (vi 0) (z8 (qx ?_))));obtain rfl:=Option.some.inj a
 refine qd (D:=[]) (J:=[box b [l] 64,F,box d [(.func (.func 105) #[] #[(.pointer (some ⟨b,0,none⟩)),o,(.pointer (some ⟨d,0,none⟩))])] 83]) (rs:=[.tmp 2,.tmp 3]) (vs:=[(.bool (!n)),(vi 0)]) ((f.trans e).trans s) rfl rfl ⟨rfl,rfl,trivial⟩ ?_;exact⟨rfl,rfl⟩
theorem q8l:Enters prog 97:=enters_of func97 rfl (by kernel_rfl)
theorem zfy{N:Nat}{R:RH}{p0_:Mach}{a:Value}(c:PRep (ja false false) R a p0_){r:Bool}(b:z4m N p0_=some r):CallP prog 96 #[a] R (fun v R'=>v=(.bool r)):=by
 refine qg (args:=[a]) func96 rfl rfl fun A=>?_;rw [z4m] at b;refine zl (zi (.bool false) (qw (qh rfl rf rfl c fun i f=>?_)));obtain⟨d,g,b⟩:=zq b;refine jc rfl q8l rfl (z9z f g) fun j k e h=>?_;obtain rfl:=h
 refine zg (.tuple #[(.bool d.1),(vi d.2)]) (zo (ky rfl rfl) (zo (ky rfl rfl) (zi (.bool d.1) (zi (vi d.2) (qw (zg (.bool d.1) (zi (.bool d.1) (z8 (qx ?_)))))))));obtain rfl:=Option.some.inj b;refine qd (D:=[]) (J:=[]) (rs:=[.tmp 1]) (vs:=[(.bool d.1)]) e rfl rfl ⟨rfl,trivial⟩ ?_;exact⟨rfl,rfl⟩
theorem qa6:Enters prog 96:=enters_of func96 rfl (by kernel_rfl)
theorem q4h: ∀ w,∃ z,(zeroValue 33).run prog w= .ok z w∧z.cells=([.slice none 0 0]:List Value).toArray:=fun w=>⟨vs0,by kernel_rfl,rfl⟩
theorem za3: ∀ w,∃ z,(zeroValue 3).run prog w= .ok z w∧z.cells=([.int .i64 0]:List Value).toArray:=fun w=>⟨(vi 0),by kernel_rfl,rfl⟩
theorem zih: ∀ w,(sizeOf 33).run prog w= .ok 1 w:=fun w=>by kernel_rfl
theorem zj8{N:Nat}{R:RH}{m:Mach}{a:Value}(d:VRep (ja false false) R a m){r:Mach}(b:z90 N m=some r):CallP prog 107 #[a] R (fun v R'=> ∃ f,v= .func (.func 112) #[] #[f]∧PRep (ja false false) R' f r):=by
 refine qg (args:=[a]) func107 rfl rfl fun A=>?_;rw [z90] at b;refine zl (jy (T:=(ja false false)) rfl rfl rfl d fun c h e i g=>?_);refine zi .nilFunc (qw (zo (lw (fs:=[]) (cs:=[c]) rfl rfl) (zi (.func (.func 112) #[] #[c]) (z8 (qx ?_)))));obtain rfl:=Option.some.inj b
 refine qd (D:=[]) (J:=[]) (rs:=[.tmp 2]) (vs:=[(.func (.func 112) #[] #[c])]) e rfl rfl ⟨rfl,trivial⟩ ?_;exact⟨rfl,⟨c,rfl,g⟩⟩
theorem q9v:Enters prog 107:=enters_of func107 rfl (by kernel_rfl)
theorem q5k: ∀ w,∃ z,(zeroValue 172).run prog w= .ok z w∧z.cells=((ym (zc1 16 (List.replicate 16 (((0:Int),(0:Int)):(Int×Int)))))).toArray:=fun w=>⟨(.agg #[(vi 0),(vi 0),(vi 0),(vi 0),(vi 0),(vi 0),(vi 0),(vi 0),(vi 0),(vi 0),(vi 0),(vi 0),(vi 0),(vi 0),(vi 0),(vi 0),(vi 0),(vi 0),(vi 0),(vi 0),(vi 0),(vi 0),(vi 0),(vi 0),(vi 0),(vi 0),(vi 0),(vi 0),(vi 0),(vi 0),(vi 0),(vi 0)]),by kernel_rfl,by kernel_rfl⟩
theorem q5p:ArrOk prog 172 16 2:=zm3 (e:=68) underlying172 (fun w=>by kernel_rfl)
theorem qa4:ArrOk prog 68 2 1:=zm3 (e:=3) underlying68 (fun w=>by kernel_rfl)
theorem q59: ∀ w,(isAgg 172).run prog w= .ok true w:=fun w=>by kernel_rfl
theorem q1b: ∀ w,(sizeOf 172).run prog w= .ok 32 w:=fun w=>by kernel_rfl
theorem zm7{N:Nat}{R:RH}{m:Mach}{n:Value}(O:VRep (ja false false) R n m){p:(List Int)}{h:Value}(P:VRep (tSl false (zu .i64)) R h p){s:Int}{r:(Arr 16 (Int×Int))}(k:z97 N m p s=some r):CallP prog 117 #[n,h,(vi s)] R (fun v R'=>v=(z7a r)):=by
 refine qg (args:=[n,h,(vi s)]) func117 rfl rfl fun A=>?_;rw [z97] at k;refine zl (jy (T:=(ja false false)) rfl rfl rfl O fun v1 R3 C h5 h2=>?_);refine um rfl q5k fun M=>?_;refine qw (um rfl q5k fun B=>?_);refine z8 ?_;obtain⟨e,b,k⟩:=zq k
 refine ql (γ:=((Arr 16 (Int×Int)))) (rs [8,38]) (fun g=>[]) (fun g=>[box M (ym (zc1 16 (List.replicate 16 (((0:Int),(0:Int)):(Int×Int))))) 172,box B (ym g) 172]++A) (fun g R=>e=g∧True) ?_ ?_;refine zl (jb rfl ug ko rfl h2 fun ab Q=>?_);refine qh rfl z0c rfl Q fun ac S=>?_
 refine zg (vi s) ?_;obtain⟨E,b⟩:=zb b;refine kw (i:=s.toNat) rfl z7n rfl (qz S) (ze rfl E.1) (zz E) fun ad U=>?_;refine qh rfl z7i rfl U fun ae F=>?_
 refine zo (qi rfl underlying97 rfl (qz F)) (zg (vi 0) (z8 (zx (j5 (γ:=Nat×Int×((Arr 16 (Int×Int)))) (rs [8,10,16,38]) (fun g=>[(16,(vi g.2.1))]) (fun g=>[box M (ym (zc1 16 (List.replicate 16 (((0:Int),(0:Int)):(Int×Int))))) 172,box B (ym g.2.2) 172]++A) (fun g R=>rq N m p s g.1 g.2.1 g.2.2=some e∧True) (fun g=>g.1) (N,0,(zc1 16 (List.replicate 16 (((0:Int),(0:Int)):(Int×Int))))) ⟨[],(pk 1 rfl (pk 0 rfl (List.Perm.refl _)))⟩ ⟨b,trivial⟩ ?_))))
 clear b;rintro⟨l,a,d⟩ af ag f ⟨b,_⟩;rcases l with _|l;exact qp b;replace b:rq N m p s (l+1) a d=some e:=b;rw [rq] at b;refine zl (zo (j3 rfl rfl) (z8 (q9 (zw rfl b (fun b=>?_) (fun b=>?_)))));refine qa ?_;obtain⟨t,c,b⟩:=zq b
 refine ql (γ:=((Arr 16 (Int×Int)))) (rs [8,10,18,37]) (fun g=>[]) (fun g=>[box M (ym (zc1 16 (List.replicate 16 (((0:Int),(0:Int)):(Int×Int))))) 172,box B (ym g) 172]++A) (fun g R=>t=g∧True) ?_ ?_;refine zx (zl (zg (vi a) ?_));obtain⟨G,c⟩:=zb c
 refine kw (i:=a.toNat) rfl z8x rfl (qz (F.mono f)) (ze rfl G.1) (zz G) fun ah V=>?_;refine qh rfl z7k rfl V fun ai W=>?_;obtain rfl:=ax.1 W;refine um rfl z6v fun u=>?_
 refine zi (vi a) (jo (i:=0) (vs:=[(vi ((ix (ix m.rows s) a).to)),(vi ((ix (ix m.rows s) a).out))]) z4o rfl rfl rfl rfl rfl rfl (qf rfl (qf rfl jq)) ?_)
 refine qw (zg (vi a) (zo (q8 z6i rfl) (zo (qb (i:=0) ag3 rfl rfl rfl) (zo (yn (ps:=[(0,(vi ((ix (ix m.rows s) a).out))),(1,(vi (-1)))]) (v:=(.agg #[(vi ((ix (ix m.rows s) a).out)),(vi (-1))])) rfl (fun w=>by kernel_rfl)) ?_))));obtain⟨x,c⟩:=zb c
 refine zo (z8c (i:=a.toNat) q5p rfl (ze rfl x.1) (Nat.lt_of_lt_of_eq (zz x) d.2)) (zoy (sz:=2) (cl:=z1w) (z:=(((ix (ix m.rows s) a).out,(-1)):(Int×Int))) (vs:=[(vi ((ix (ix m.rows s) a).out)),(vi (-1))]) (q:=a) (i:=a.toNat) (o:=0) (j:=2) (X:=d) co_A2tInti64.len q5w rfl rfl (by omega) rfl (Nat.lt_of_lt_of_eq (zz x) d.2) rfl rfl rfl (qf rfl (qf rfl jq)) rfl rfl ?_)
 refine qw (zo (q8 yo rfl) (zo (qb (i:=0) ag3 rfl rfl rfl) (zo (xx rfl rfl) (z8 (zw rfl c (fun c=>?_) (fun c=>?_))))));refine z1i 8 mixed (by kernel_rfl) (by kernel_rfl) ?_;refine kg (v:=(vi a)) (zf rfl) ?_;refine kg (v:=h) (zf rfl) ?_
 refine kg (v:=(.pointer (some ⟨u,0,none⟩))) (q8 yo rfl) ?_;refine kg (v:=(vi ((ix (ix m.rows s) a).to))) (qb (i:=0) ag3 rfl rfl rfl) ?_;obtain⟨H,c⟩:=zb c;refine z06 (yl (i:=((ix (ix m.rows s) a).to).toNat) fe rfl (qz (P.mono (C.trans f))) (ze rfl H.1) (zz H)) fun aj Y=>?_
 refine kg (ny (jk ty3 rfl Y)) ?_;obtain⟨y,c⟩:=zb c;refine kg (v:=(.pointer (some ⟨B,0+a.toNat*2,none⟩))) (z8c (i:=a.toNat) q5p rfl (ze rfl y.1) (Nat.lt_of_lt_of_eq (zz y) (z5h d a (((ix (ix m.rows s) a).out,(-1)):(Int×Int))).2)) ?_
 refine kg (v:=(.pointer (some ⟨B,0+a.toNat*2+1*1,none⟩))) (z8c (i:=1) qa4 rfl rfl (by decide)) ?_;intro ak I
 refine zoy (sz:=2) (cl:=z1w) (z:=(((ix (z5h d a (((ix (ix m.rows s) a).out,(-1)):(Int×Int))).1 a).1,(ix p ((ix (ix m.rows s) a).to))):(Int×Int))) (vs:=[(vi (ix p ((ix (ix m.rows s) a).to)))]) (q:=a) (i:=a.toNat) (o:=1) (j:=2) (X:=(z5h d a (((ix (ix m.rows s) a).out,(-1)):(Int×Int)))) co_A2tInti64.len sz3 rfl rfl (by omega) rfl (Nat.lt_of_lt_of_eq (zz y) (z5h d a (((ix (ix m.rows s) a).out,(-1)):(Int×Int))).2) rfl rfl rfl (qf rfl jq) rfl rfl ?_
 refine z8 ?_
 exact⟨dkt,I,je,(z5h (z5h d a (((ix (ix m.rows s) a).out,(-1)):(Int×Int))) a (((ix (z5h d a (((ix (ix m.rows s) a).out,(-1)):(Int×Int))).1 a).1,(ix p ((ix (ix m.rows s) a).to))):(Int×Int))),trivial,⟨[box u [(vi ((ix (ix m.rows s) a).to)),(vi ((ix (ix m.rows s) a).out))] 100],(List.Perm.refl _)⟩,(Option.some.inj c).symm,trivial⟩
 refine qa ?_;exact⟨dkt,(RH.le.refl _),je,(z5h d a (((ix (ix m.rows s) a).out,(-1)):(Int×Int))),trivial,⟨[box u [(vi ((ix (ix m.rows s) a).to)),(vi ((ix (ix m.rows s) a).out))] 100],(List.Perm.refl _)⟩,(Option.some.inj c).symm,trivial⟩;rintro t al am K ⟨rfl,_⟩;refine zy ?_;obtain⟨Z,b⟩:=zb b
 refine zo (j4 rfl rfl Z) (zg (vi (a+1)) (z8 ?_));exact⟨dkt,K,je,(l,a+1,t),Nat.lt_succ_self _,⟨rfl,trivial⟩,prm,b,trivial⟩;refine jd ?_;exact⟨dkt,f,je,d,trivial,prm,(Option.some.inj b).symm,trivial⟩;rintro e an ao L ⟨rfl,_⟩
 refine zl (zo (zc3 (j:=1) (v:=(z7a e)) q59 q1b rfl rfl (co_A16A2tInti64.len _) rfl) (zk9 (j:=0) (cs:=(ym (zc1 16 (List.replicate 16 (((0:Int),(0:Int)):(Int×Int)))))) (cs':=(ym e)) q1b rfl rfl (co_A16A2tInti64.len _) (co_A16A2tInti64.len _) rfl rfl (zow (zdz _)) ?_));refine z8 (qx ?_)
 obtain rfl:=Option.some.inj k;refine qd (D:=[]) (J:=[box M (ym e) 172,box B (ym e) 172]) (rs:=[.cell 6 172]) (vs:=[(z7a e)]) (C.trans L) rfl rfl ⟨⟨_,rfl,fun w hh=>zxx (i:=0) hh rfl q59 q1b (co_A16A2tInti64.len _)⟩,trivial⟩ ?_;exact⟨rfl,rfl⟩
theorem q83:Enters prog 117:=enters_of func117 rfl (by kernel_rfl)
theorem q5l: ∀ w,∃ z,(zeroValue 175).run prog w= .ok z w∧z.cells=((ow (⟨(0:Int),(zc1 16 (List.replicate 16 (((0:Int),(0:Int)):(Int×Int))))⟩:Sb))).toArray:=fun w=>⟨(.agg #[(vi 0),(vi 0),(vi 0),(vi 0),(vi 0),(vi 0),(vi 0),(vi 0),(vi 0),(vi 0),(vi 0),(vi 0),(vi 0),(vi 0),(vi 0),(vi 0),(vi 0),(vi 0),(vi 0),(vi 0),(vi 0),(vi 0),(vi 0),(vi 0),(vi 0),(vi 0),(vi 0),(vi 0),(vi 0),(vi 0),(vi 0),(vi 0),(vi 0)]),by kernel_rfl,by kernel_rfl⟩
theorem zwu: ∀ w,(sizeOf 175).run prog w= .ok 33 w:=fun w=>by kernel_rfl
theorem q2d: ∀ w,(isAgg 175).run prog w= .ok true w:=fun w=>by kernel_rfl
theorem mz3: ∀ w,(zeroValue 3).run prog w= .ok ((Value.int .i64) (0:Int)) w:=fun w=>by kernel_rfl
theorem kt3:KTy prog 3 1 1 false (fun cs=> ∃ x,cs=[.int .i64 x]):=q39 underlying3 (by kernel_rfl)
theorem q8n:KTy prog 68 2 (2*1) true (znz 2 (fun cs=> ∃ x,cs=[.int .i64 x])):=zwq underlying68 (by kernel_rfl) kt3
theorem q5o(x:(Int×Int)):znz 2 (fun cs=> ∃ x,cs=[.int .i64 x]) (z1w x):=⟨[[(vi x.1)],[(vi x.2)]],rfl,by
      intro c a
      simp only [List.mem_cons,List.not_mem_nil,or_false] at a
      rcases a with rfl|rfl
      · exact⟨x.1,rfl⟩
      · exact⟨x.2,rfl⟩,rfl⟩
theorem kt172:KTy prog 172 3 (16*2) true (znz 16 (znz 2 (fun cs=> ∃ x,cs=[.int .i64 x]))):=zwq underlying172 (by kernel_rfl) q8n
theorem q7f(x:Sb):(fun cs=> ∃ a b,(fun cs=> ∃ x,cs=[.int .i64 x]) a∧(fun cs=> ∃ a b,(znz 16 (znz 2 (fun cs=> ∃ x,cs=[.int .i64 x]))) a∧(fun cs=>cs=[]) b∧cs=a++b) b∧cs=a++b) (ow x):=⟨_,_,⟨x.fBi,rfl⟩,⟨_,_,(q3i (fun x=>(q5o x)) x.fBb),rfl,(List.append_nil _).symm⟩,rfl⟩
theorem q9l:KTy prog 175 4 33 true (fun cs=> ∃ a b,(fun cs=> ∃ x,cs=[.int .i64 x]) a∧(fun cs=> ∃ a b,(znz 16 (znz 2 (fun cs=> ∃ x,cs=[.int .i64 x]))) a∧(fun cs=>cs=[]) b∧cs=a++b) b∧cs=a++b):=zv2 underlying175 (by kernel_rfl) (by kernel_rfl) (.cons (by decide) rfl (kt3.mono (by decide)) (.cons (by decide) rfl (kt172.mono (by decide)) .nil)) (by
  rintro cs ⟨e,f,c,⟨g,h,d,rfl,rfl⟩,rfl⟩
  simp only [List.length_append,List.length_nil,kt3.len _ c,kt172.len _ d])
theorem q03:KOk prog 175 z0u:=q0u q9l (by decide) (by rw [underlying175]) (fun _=>rfl) (fun x=>(q7f x)) zkv ze2
theorem zi2{N:Nat}{R:RH}{m:Mach}{G:Value}(H:VRep (ja false false) R G m){p:(List Int)}{o:Value}(y:VRep (tSl false (zu .i64)) R o p){r:(List Int)}(q:z5r N m p=some r):CallP prog 113 #[G,o] R (fun v R'=>VRep (tSl true (zu .i64)) R' v r):=by
 refine qg (args:=[G,o]) func113 rfl rfl fun A=>?_;rw [z5r] at q;refine zl (jy (T:=(ja false false)) rfl rfl rfl H fun v1 R3 n h5 h2=>?_);refine zi vs0 (qw (zmo (ke:=z0u) (ve:=(Value.int .i64)) rfl fun I f7 h8=>?_))
 refine zi I (qw (zg o (zo (qi rfl underlying33 rfl (qz (y.mono n))) ?_)));obtain⟨z,q⟩:=zb q;refine z2p (T:=(zu .i64)) (m:=(↑p.length:Int).toNat) (c:=(↑p.length:Int).toNat) rfl underlying33 zo3 (ze rfl z.1) (ze rfl z.1) (Nat.le_refl _) (z3h z) (z3m z) fun f Z K aa=>?_
 refine zi f (z8 ?_);obtain⟨s,b,q⟩:=zq q;refine ql (γ:=(List Int)×Frag) (rs [7,12,16,48]) (fun g=>[]) (fun g=>[g.2]++A) (fun g R=>s=g.1∧ORep (zu .i64) R g.2 f g.1∧capOf f=g.1.length∧True) ?_ ?_
 refine zl (zg o (zo (qi rfl underlying33 rfl (qz (y.mono n))) (zg (vi 0) (z8 (zx (j5 (γ:=Nat×Int×(List (Sb×Int))×(List Int)×Frag×Frag) (rs [7,12,18,48]) (fun g=>[(18,(vi g.2.1))]) (fun g=>[g.2.2.2.2.1,g.2.2.2.2.2]++A) (fun g R=>r9 N m p g.1 g.2.1 g.2.2.1 g.2.2.2.1=some s∧MRep z0u (Value.int .i64) R g.2.2.2.2.1 I g.2.2.1∧ORep (zu .i64) R g.2.2.2.2.2 f g.2.2.2.1∧capOf f=g.2.2.2.1.length∧True) (fun g=>g.1) (N,0,[],(mk (↑p.length:Int) (0:Int)),f7,Z) ⟨[],(pk 1 rfl (pk 0 rfl (List.Perm.refl _)))⟩ ⟨b,h8,aa,(K.trans List.length_replicate.symm),trivial⟩ ?_))))))
 clear b;rintro⟨B,a,h,L,P,Q⟩ av aw l ⟨b,C,M,F,_⟩;rcases B with _|B;exact qp b;replace b:r9 N m p (B+1) a h L=some s:=b;rw [r9] at b;refine zl (zo (j3 rfl rfl) (z8 (q9 (zw rfl b (fun b=>?_) (fun b=>?_)))))
 refine qa (q9 (zx (zl (zg (vi a) ?_))));obtain⟨S,b⟩:=zb b;refine kw (i:=a.toNat) rfl fe rfl (qz (y.mono (n.trans l))) (ze rfl S.1) (zz S) fun ax ab=>?_;refine qh rfl ty3 rfl ab fun az ac=>?_;obtain rfl:=j6.1 ac
 refine zi (vi a) (zi (vi (ix p a)) (qw (zg (vi (ix p a)) (zo (jg rf rfl rfl (h5.mono l) (H.mono (n.trans l))) (zg o (zg (vi a) ?_))))));obtain⟨d,ad,b⟩:=zq b;refine jc rfl q83 rfl (zm7 (H.mono (n.trans l)) (y.mono (n.trans l)) ad) fun aA aB e ae=>?_
 obtain rfl:=ae
 refine zo (zut (ps:=[(0,(vi (ix p a))),(1,(z7a d))]) (pls:= #[(0,1),(1,32)]) (out:=(ow (⟨(ix p a),d⟩:Sb))) (k:=33) (v:=(z0u (⟨(ix p a),d⟩:Sb))) rfl underlying175 (q41 (co_Srefines_key.len _) q5l) (fun w=>by kernel_rfl) (.cons rfl rfl (.last rfl (by simp only [co_A16A2tInti64.len];rfl))) (co_Srefines_key.len _) rfl) (um rfl q5l fun U=>?_)
 refine zk9 (j:=0) (cs:=(ow (⟨(0:Int),(zc1 16 (List.replicate 16 (((0:Int),(0:Int)):(Int×Int))))⟩:Sb))) (cs':=(ow (⟨(ix p a),d⟩:Sb))) zwu rfl rfl (co_Srefines_key.len _) (co_Srefines_key.len _) rfl rfl (zow (ze2 _)) ?_;refine z8 ?_;obtain⟨E,t,b⟩:=zq b
 refine ql (γ:=(List (Sb×Int))×Frag) (rs [10,12,29,41]) (fun g=>[]) (fun g=>[g.2,Q,box U (ow (⟨(ix p a),d⟩:Sb)) 175]++A) (fun g R=>E=g.1∧MRep z0u (Value.int .i64) R g.2 I g.1∧True) ?_ ?_
 refine zl (zg I (zo (zc3 (j:=0) (v:=(z0u (⟨(ix p a),d⟩:Sb))) q2d zwu rfl rfl (co_Srefines_key.len _) rfl) (zo (zr5 (k:=(⟨(ix p a),d⟩:Sb)) underlying170 q03 mz3 (zkw (i:=1) rfl (C.mono e)) rfl rfl) (zg (.tuple #[(vi (z7s (0:Int) h (⟨(ix p a),d⟩:Sb))),(.bool (z95 h (⟨(ix p a),d⟩:Sb)))]) (zo (ky rfl rfl) (zo (ky rfl rfl) (zi (vi (z7s (0:Int) h (⟨(ix p a),d⟩:Sb))) (zi (.bool (z95 h (⟨(ix p a),d⟩:Sb))) (qw (zg (.bool (z95 h (⟨(ix p a),d⟩:Sb))) (zo (z0g rfl) (z8 (zw rfl t (fun t=>?_) (fun t=>?_))))))))))))))
 refine zy (zg I (zo (zc3 (j:=0) (v:=(z0u (⟨(ix p a),d⟩:Sb))) q2d zwu rfl rfl (co_Srefines_key.len _) rfl) (zg I (zo (q1h rfl underlying170 rfl (zkw (i:=1) rfl (C.mono e))) (ziq (i:=1) (k:=(⟨(ix p a),d⟩:Sb)) (u:=(↑h.length:Int)) underlying170 q03 rfl (C.mono e) rfl rfl rfl fun af ag=>?_)))))
 refine z8 ?_;exact⟨dkt,(RH.le.refl _),je,((zai h (⟨(ix p a),d⟩:Sb) (↑h.length:Int)),af),trivial,⟨[],(pk 1 rfl (pk 1 rfl (pk 0 rfl (List.Perm.refl _))))⟩,(Option.some.inj t).symm,ag,trivial⟩;refine qa ?_
 exact⟨dkt,(RH.le.refl _),je,(h,P),trivial,⟨[],(pk 1 rfl (pk 1 rfl (pk 0 rfl (List.Perm.refl _))))⟩,(Option.some.inj t).symm,(C.mono e),trivial⟩;rintro⟨E,ah⟩ aC aD x ⟨rfl,V,_⟩
 refine zy (zg f (zg (vi a) (zg I (zo (zc3 (j:=2) (v:=(z0u (⟨(ix p a),d⟩:Sb))) q2d zwu rfl rfl (co_Srefines_key.len _) rfl) (zo (zmf (k:=(⟨(ix p a),d⟩:Sb)) underlying170 q03 mz3 (zkw (i:=0) rfl V) rfl rfl) ?_)))));obtain⟨O,b⟩:=zb b
 refine uz (i:=a.toNat) rfl fe rfl (M.mono (e.trans x)) (ze rfl O.1) (zz O) fun aE ai=>?_;refine ay (i:=a.toNat) (j:=1) ty3 (M.mono (e.trans x)) rfl rfl ai (zz O) rfl (j6.2 rfl) fun aj ak=>?_;refine z8 (zy ?_);obtain⟨al,b⟩:=zb b
 refine zo (j4 rfl rfl al) (zg (vi (a+1)) (z8 ?_))
 exact⟨dkt,(e.trans x),je,(B,a+1,E,(up L a (z7s (0:Int) E (⟨(ix p a),d⟩:Sb))),ah,aj),Nat.lt_succ_self _,⟨rfl,trivial⟩,⟨[box U (ow (⟨(ix p a),d⟩:Sb)) 175],(pk 2 rfl (pk 0 rfl (pk 0 rfl (List.Perm.refl _))))⟩,b,V,ak,(F.trans List.length_set.symm),trivial⟩;refine jd ?_
 exact⟨dkt,l,je,(L,Q),trivial,⟨[P],(List.Perm.refl _)⟩,(Option.some.inj b).symm,M,F,trivial⟩;rintro⟨s,aF⟩ aG aH W ⟨rfl,am,X,_⟩;refine zl (zg f (zi f (z8 (yj (i:=0) rfl am fun an Y ao=>?_))));have ap:VRep (tSl true (zu .i64)) an f s:=(z1d ao X);refine qx ?_;obtain rfl:=Option.some.inj q
 refine qd (D:=[]) (J:=[]) (rs:=[.tmp 4]) (vs:=[f]) ((n.trans W).trans Y) rfl rfl ⟨rfl,trivial⟩ ?_;exact⟨rfl,ap⟩
theorem q84:Enters prog 113:=enters_of func113 rfl (by kernel_rfl)
theorem z7z{N:Nat}{R:RH}{s1_:(List Int)}{b:Value}(e:VRep (tSl false (zu .i64)) R b s1_){s2_:(List Int)}{d:Value}(f:VRep (tSl false (zu .i64)) R d s2_){r:Bool}(c:slices_Equal_int N s1_ s2_=some r):CallP prog 47 #[b,d] R (fun v R'=>v=(.bool r)):=by
 refine qg (args:=[b,d]) func47 rfl rfl fun A=>?_;rw [slices_Equal_int] at c;refine zl (zi (.bool false) (z8 (q9 (zl (zg b (zo (qi rfl underlying33 rfl (qz e)) (zg d (zo (qi rfl underlying33 rfl (qz f)) (zo (xx rfl rfl) (z8 (zw rfl c (fun c=>?_) (fun c=>?_))))))))))))
 refine zl (zi (.bool false) (z8 (qx ?_)));obtain rfl:=Option.some.inj c;refine qd (D:=[]) (J:=[]) (rs:=[.tmp 4]) (vs:=[(.bool false)]) (RH.le.refl _) rfl rfl ⟨rfl,trivial⟩ ?_;exact⟨rfl,rfl⟩;refine qa ?_;obtain⟨o,a,c⟩:=zq c;refine ql (γ:=Unit) (rs [4,6,11,26]) (fun g=>[]) (fun g=>[]++A) (fun g R=>o=Ex.go g∧True) ?_ ?_
 refine zl (zg b (zo (qi rfl underlying33 rfl (qz e)) (zg (vi 0) (z8 (zx (j5 (γ:=Nat×Int) (rs [4,6,13,26]) (fun g=>[(13,(vi g.2))]) (fun g=>[]++A) (fun g R=>ik N s1_ s2_ g.1 g.2=some o∧True) (fun g=>g.1) (N,0) prm ⟨a,trivial⟩ ?_))))));clear a;rintro⟨n,h⟩ u B j ⟨a,_⟩
 rcases n with _|n;exact qp a;replace a:ik N s1_ s2_ (n+1) h=some o:=a;rw [ik] at a;refine zl (zo (j3 rfl rfl) (z8 (q9 (zw rfl a (fun a=>?_) (fun a=>?_)))))
 refine qa (q9 (zx (zl (zg (vi h) (zi (vi h) (z8 (q9 (z1i 9 mixed (by kernel_rfl) (by kernel_rfl) ?_))))))));refine kg (v:=b) (zf rfl) ?_;refine kg (v:=(vi h)) (zf rfl) ?_;obtain⟨l,a⟩:=zb a
 refine z06 (yl (i:=h.toNat) fe rfl (qz (e.mono j)) (ze rfl l.1) (zz l)) fun w p=>?_;refine kg (ny (jk ty3 rfl p)) ?_;refine kg (v:=d) (zf rfl) ?_;refine kg (v:=(vi h)) (zf rfl) ?_;obtain⟨m,a⟩:=zb a
 refine z06 (yl (i:=h.toNat) fe rfl (qz (f.mono j)) (ze rfl m.1) (zz m)) fun x q=>?_;refine kg (ny (jk ty3 rfl q)) ?_;refine kg (xx rfl rfl) ?_;intro y k;refine z8 (zw rfl a (fun a=>?_) (fun a=>?_));refine zl (zi (.bool false) (z8 (qx ?_)));replace c:=z3k a c
 obtain rfl:=Option.some.inj c;refine qd (D:=[]) (J:=[]) (rs:=[.tmp 4]) (vs:=[(.bool false)]) (j.trans k) rfl rfl ⟨rfl,trivial⟩ ?_;exact⟨rfl,rfl⟩;refine qa (zy ?_);obtain⟨s,a⟩:=zb a;refine zo (j4 rfl rfl s) (zg (vi (h+1)) (z8 ?_));exact⟨dkt,k,je,(n,h+1),Nat.lt_succ_self _,⟨rfl,trivial⟩,prm,a,trivial⟩
 refine jd ?_;exact⟨dkt,j,je,(),trivial,prm,(Option.some.inj a).symm,trivial⟩;rintro C z E t ⟨rfl,_⟩;replace c:=z4x c;refine zl (zi (.bool true) (z8 (qx ?_)));obtain rfl:=Option.some.inj c;refine qd (D:=[]) (J:=[]) (rs:=[.tmp 4]) (vs:=[(.bool true)]) t rfl rfl ⟨rfl,trivial⟩ ?_;exact⟨rfl,rfl⟩
end GV
end Go.Proofs.YtplgbkaollfmkaaGreat
