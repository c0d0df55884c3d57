import Derived.Test.YtnnobdkjgafdmaaShWc
import Derived.Test.YtnnobdkjgafdmaaRows
set_option linter.unusedVariables false
set_option linter.unusedSimpArgs false
set_option linter.unusedSectionVars false
namespace Go.Proofs.Ytnnobdkjgafdmaa
namespace GV
open _root_.Go.Proofs.Try
open Go.IntWalk
set_option maxRecDepth 100000
set_option maxHeartbeats 20000000
theorem q8h:Enters prog 65:=enters_of func65 rfl (by kernel_rfl)
theorem z6c{N:Nat}{R:RH}{E:(Arr 64 Int)}{b:Value}(y:VRep (q18 z4h) R b E){m:Mach}{q:Value}(s:VRep (jm false false) R q m){block:Int}{i:Int}{t:Int}{r:Bool}(k:z1w N E m block i t=some r):CallP prog 41 #[b,q,(.int .u16 block),(vi i),(vi t)] R (fun v R'=>v=(.bool r)):=by
 refine qd (args:=[b,q,(.int .u16 block),(vi i),(vi t)]) func41 rfl rfl fun A=>?_;rw [z1w] at k;refine zi (ky (T:=(jm false false)) rfl rfl rfl s fun v1 R3 l Q h2=>?_);refine zh (.bool false) (qw (zk (jy z1b rfl rfl Q (s.mono l)) (zf (.int .u16 block) (zf (vi i) ?_))))
 obtain⟨f,S,k⟩:=zq k;refine jd rfl q8h rfl (zk6 (s.mono l) S) fun v8 U o V=>?_;obtain rfl:=V;refine zf (.tuple #[(z1a f.1),(.bool f.2)]) (zk (jc rfl rfl) (zk (jc rfl rfl) (ko rfl q33 fun F=>?_)))
 refine iw (j:=0) (cs:=(gm (ah 16 (List.replicate 16 (0:Int))))) (cs':=(gm f.1)) zhg rfl rfl (co_A16tIntu16.len _) (co_A16tIntu16.len _) rfl rfl (z0y (z9y _)) ?_;refine zh (.bool f.2) (z8 ?_);obtain⟨c,a,k⟩:=zq k
 refine qm (γ:=Bool) (rs [12,13,14,15,22,34]) (fun g=>[(12,(.bool g))]) (fun g=>[]++A) (fun g R=>c=g∧True) ?_ ?_
 refine zi (zk (ng (j:=0) (v:=(z1a f.1)) zpu zhg rfl rfl (co_A16tIntu16.len _) rfl) (zf (vi 0) (z8 (zx (jb (γ:=Nat×Bool×Int) (rs [12,13,14,15,23,34]) (fun g=>[(12,(.bool g.2.1)),(23,(vi g.2.2))]) (fun g=>[]++A) (fun g R=>iy N E t f g.1 g.2.1 g.2.2=some c∧True) (fun g=>g.1) (N,f.2,0) ⟨[box F (gm f.1) 106],(List.Perm.refl _)⟩ ⟨a,trivial⟩ ?_)))))
 clear a;rintro⟨n,d,e⟩ W Y p ⟨a,_⟩;rcases n with _|n;exact qp a;replace a:iy N E t f (n+1) d e=some c:=a;rw [iy] at a;refine zi (zk (j3 rfl rfl) (z8 (zw (zu rfl a (fun a=>?_) (fun a=>?_)))));refine qa (zw (zx (zi ?_)))
 obtain⟨z,a⟩:=zb a
 refine zk (zpk (i:=e.toNat) (X:=f.1) underlying106 zxb q4c rfl (zg rfl z.1) (Nat.lt_of_lt_of_eq (zy z) f.1.2)) (zh (.int .u16 (ix f.1.1 e)) (z8 (zn (jv (v:=(.bool d)) rfl (ze rfl) (jv (v:=(.bool d)) rfl (ze rfl) (ji rfl rfl rfl rfl (fun u=>qx (v:=b) (ze rfl)) fun Z G=>?_))))))
 refine ji rfl rfl rfl rfl (fun u=>qx (v:=(.int .u16 (ix f.1.1 e))) (ze rfl)) fun aa H=>?_;refine ji rfl rfl rfl rfl (fun u=>qx (v:=(vi t)) (ze rfl)) fun ab I=>?_;obtain⟨w,K,a⟩:=zq a
 refine z5v rfl rfl rfl rfl (fun u=>xk (vs:=[b,(.int .u16 (ix f.1.1 e)),(vi t)]) q4d (z9z (G.1 (zo rfl u)) (z9z (H.1 (zo rfl u)) (z9z (I.1 (zo rfl u)) rfl))) ((by have L:=(z3w K (zo rfl u));exact z4d (z1h.2 ((z1h.1 y).mono ((l.trans o).trans p))) L)) (fun _ _ h=>h)) fun M O B x=>?_
 replace x:phG (true&&(d==true)) (phX (.bool (w.getD default))) M O:=x;refine jv rfl (mg rfl (fun hb=>(x.1 (zo rfl hb))) rfl) (zh (.bool (d&&(w.getD default))) (z8 (zn ?_)));obtain⟨P,a⟩:=zb a;refine zk (jh rfl rfl P) (zf (vi (e+1)) (z8 ?_))
 exact⟨dkt,B,jl,(n,d&&(w.getD default),e+1),Nat.lt_succ_self _,⟨rfl,rfl,trivial⟩,prm,a,trivial⟩;refine jk ?_;exact⟨dkt,p,jl,d,⟨rfl,trivial⟩,prm,(Option.some.inj a).symm,trivial⟩;rintro c ad ae C ⟨rfl,_⟩;refine zi (zf (.bool c) (zh (.bool c) (z8 (ql ?_))));obtain rfl:=Option.some.inj k
 refine q8 (D:=[]) (J:=[]) (rs:=[.tmp 10]) (vs:=[(.bool c)]) ((l.trans o).trans C) rfl rfl ⟨rfl,trivial⟩ ?_;exact⟨rfl,rfl⟩
theorem q6h:Enters prog 41:=enters_of func41 rfl (by kernel_rfl)
theorem zgz{N:Nat}{R:RH}{m:Mach}{C:Value}(I:VRep (jm false false) R C m){r:(Arr 64 Int)}(E:z90 N m=some r):CallP prog 38 #[C] R (fun v R'=>VRep (q18 z4h) R' v r):=by
 refine qd (args:=[C]) func38 rfl rfl fun A=>?_;rw [z90] at E;refine zi (ky (T:=(jm false false)) rfl rfl rfl I fun v1 R3 K h5 h2=>?_)
 refine zh (.pointer none) (qw (zk (xm (ps:=[]) (v:=(zcc (ah 64 (List.replicate 64 (0:Int))))) rfl (fun w=>by kernel_rfl)) (zrq (cs:=(yx (ah 64 (List.replicate 64 (0:Int))))) rfl rfl rfl fun t=>?_)));refine zh (.pointer (some ⟨t,0,none⟩)) (z8 ?_);obtain⟨M,b,E⟩:=zq E
 refine qm (γ:=((Arr 64 Int))) (rs [4,9,11,44]) (fun g=>[]) (fun g=>[box t (yx g) 104]++A) (fun g R=>M=g∧True) ?_ ?_
 refine zi (zh (vi 1) (zh (.bool true) (z8 (zx (jb (γ:=Nat×Int×Bool×((Arr 64 Int))) (rs [4,9,11,44]) (fun g=>[(4,(vi g.2.1)),(5,(.bool g.2.2.1))]) (fun g=>[box t (yx g.2.2.2) 104]++A) (fun g R=>z1k N m g.1 g.2.1 g.2.2.1 g.2.2.2=some M∧True) (fun g=>g.1) (N,1,true,(ah 64 (List.replicate 64 (0:Int)))) prm ⟨b,trivial⟩ ?_)))))
 clear b;rintro⟨F,c,O,f⟩ av aw k ⟨b,_⟩;rcases F with _|F;exact qp b;replace b:z1k N m (F+1) c O f=some M:=b;rw [z1k] at b;refine zw (zi (zf (.bool O) (z8 (zu rfl b (fun b=>?_) (fun b=>?_)))));refine qa ?_;obtain⟨u,d,b⟩:=zq b
 refine qm (γ:=(Bool×(Arr 64 Int))) (rs [5,9,14,44]) (fun g=>[(5,(.bool g.1))]) (fun g=>[box t (yx g.2) 104]++A) (fun g R=>u=g∧True) ?_ ?_
 refine zx (zi (zh (.bool false) (qw (zf (.pointer (some ⟨t,0,none⟩)) (zk (zfk rfl) (zk (ng (j:=0) (v:=(zcc f)) q6k q2h rfl rfl (co_A64tInti64.len _) rfl) (ko rfl q5e fun y=>?_)))))))
 refine iw (j:=0) (cs:=(yx (ah 64 (List.replicate 64 (0:Int))))) (cs':=(yx f)) q2h rfl rfl (co_A64tInti64.len _) (co_A64tInti64.len _) rfl rfl (z0y (zl5 _)) ?_;refine qw (je rfl xe ui rfl (h2.mono k) fun ax Z=>?_);refine qh rfl z3h rfl Z fun ay aa=>?_
 refine zk (qo rfl underlying28 rfl (ja aa)) ?_;obtain⟨ab,d⟩:=zb d
 refine zk (z7j rfl rfl ab) (zf (.int .u16 0) (z8 (zx (jb (γ:=Nat×Bool×Int×((Arr 64 Int))) (rs [5,6,7,9,21,44]) (fun g=>[(5,(.bool g.2.1)),(21,(.int .u16 g.2.2.1))]) (fun g=>[box t (yx g.2.2.2) 104,box y (yx f) 104]++A) (fun g R=>z1v N m c f g.1 g.2.1 g.2.2.1 g.2.2.2=some u∧True) (fun g=>g.1) (N,false,0,f) ⟨[],(pk 1 rfl (pk 0 rfl (List.Perm.refl _)))⟩ ⟨d,trivial⟩ ?_))))
 clear d;rintro⟨G,p,e,h⟩ az aA l ⟨d,_⟩;rcases G with _|G;exact qp d;replace d:z1v N m c f (G+1) p e h=some u:=d;rw [z1v] at d;refine zi (zk (j3 rfl rfl) (z8 (zw (zu rfl d (fun d=>?_) (fun d=>?_)))));refine qa ?_;obtain⟨B,a,d⟩:=zq d
 refine qm (γ:=(Bool×(Arr 64 Int))) (rs [5,6,7,9,23,43]) (fun g=>[(5,(.bool g.1))]) (fun g=>[box t (yx g.2) 104,box y (yx f) 104]++A) (fun g R=>B=g∧True) ?_ ?_;refine zx (zi (zf (.int .u16 e) (zh (.int .u16 e) (z8 (zw (zi (zf (.int .u16 e) (zf (vi c) ?_))))))))
 obtain⟨ac,ad,a⟩:=zq a;refine zd7 (cs:=[]) (vs:=[(.pointer (some ⟨y,0,none⟩)),(.int .u16 e),(vi c)]) (φ:=fun v=>v=(.bool ac)) rfl q4d rfl rfl (fun aB ar P=>z4d (z1h.2 (zk7 (zz8 1 rfl P) ((co_A64tInti64.iff _ _ _).2 rfl))) ad) fun aC ae=>?_;obtain rfl:=ae
 refine z8 (zu rfl a (fun a=>?_) (fun a=>?_));refine jk ?_;exact⟨dkt,(RH.le.refl _),jl,(p,h),⟨rfl,trivial⟩,prm,(Option.some.inj a).symm,trivial⟩;refine qa (zi (je rfl z2j z3l rfl (h2.mono (k.trans l)) fun aD af=>?_));refine qh rfl ty3 rfl af fun aE ag=>?_;obtain rfl:=jg.1 ag
 refine zf (vi 0) (z8 (zx (jb (γ:=Nat×Int) (rs [5,6,8,9,29,43]) (fun g=>[(5,(.bool p)),(29,(vi g.2))]) (fun g=>[box t (yx h) 104,box y (yx f) 104]++A) (fun g R=>z1m N m c f p e h g.1 g.2=some B∧True) (fun g=>g.1) (N,0) prm ⟨a,trivial⟩ ?_)));clear a
 rintro⟨H,s⟩ aF aG n ⟨a,_⟩;rcases H with _|H;exact qp a;replace a:z1m N m c f p e h (H+1) s=some B:=a;rw [z1m] at a;refine zi (zk (j3 rfl rfl) (z8 (zw (zu rfl a (fun a=>?_) (fun a=>?_)))))
 refine qa (zw (zx (zi (zf (vi s) (zh (vi s) (qw (zk (jy z1b rfl rfl (h5.mono ((k.trans l).trans n)) (I.mono (((K.trans k).trans l).trans n))) (zf (.int .u16 e) (zf (vi s) (zf (vi c) ?_))))))))));obtain⟨ai,aj,a⟩:=zq a
 refine zd7 (cs:=[]) (vs:=[(.pointer (some ⟨y,0,none⟩)),C,(.int .u16 e),(vi s),(vi c)]) (φ:=fun v=>v=(.bool ai)) rfl q6h rfl rfl (fun aH Q S=>z6c (z1h.2 (zk7 (zz8 1 rfl S) ((co_A64tInti64.iff _ _ _).2 rfl))) ((I.mono (((K.trans k).trans l).trans n)).mono Q) aj) fun aI ak=>?_
 obtain rfl:=ak;refine z8 (zu rfl a (fun a=>?_) (fun a=>?_));refine zi (zf (.pointer (some ⟨t,0,none⟩)) (zf (.int .u16 e) (zf (vi c) (zk (zfk rfl) ?_))));obtain⟨L,a⟩:=zb a
 refine zk (z05 (i:=e.toNat) zuk rfl (zg rfl L.1) (Nat.lt_of_lt_of_eq (zy L) h.2)) (z7f (sz:=1) (cl:=(fun x:Int=>[Value.int .i64 x])) (z:=c) (vs:=[(vi c)]) (q:=e) (i:=e.toNat) (o:=0) (j:=0) (X:=h) cells_int.len sz3 rfl rfl (by omega) rfl (Nat.lt_of_lt_of_eq (zy L) h.2) rfl rfl rfl (qc rfl jq) rfl rfl ?_)
 refine qw (zh (.bool true) (z8 (jk ?_)));exact⟨dkt,n,jl,(true,(sw h e c)),⟨rfl,trivial⟩,prm,(Option.some.inj a).symm,trivial⟩;refine qa (zn ?_);obtain⟨al,a⟩:=zb a;refine zk (jh rfl rfl al) (zf (vi (s+1)) (z8 ?_))
 exact⟨dkt,(RH.le.refl _),jl,(H,s+1),Nat.lt_succ_self _,⟨rfl,rfl,trivial⟩,prm,a,trivial⟩;refine jk ?_;exact⟨dkt,n,jl,(p,h),⟨rfl,trivial⟩,prm,(Option.some.inj a).symm,trivial⟩;rintro B aJ aK U ⟨rfl,_⟩;refine zn (zk (zq6 rfl rfl) (zf (.int .u16 (IntKind.u16.wrap (e+1))) (z8 ?_)))
 exact⟨dkt,U,jl,(G,B.1,IntKind.u16.wrap (e+1),B.2),Nat.lt_succ_self _,⟨rfl,rfl,trivial⟩,prm,d,trivial⟩;refine jk ?_;exact⟨dkt,l,jl,(p,h),⟨rfl,trivial⟩,⟨[box y (yx f) 104],(pk 1 rfl (pk 0 rfl (List.Perm.refl _)))⟩,(Option.some.inj d).symm,trivial⟩;rintro u aL aM V ⟨rfl,_⟩;refine zn (zf (vi c) ?_)
 obtain⟨am,b⟩:=zb b;refine zk (jh rfl rfl am) (zh (vi (c+1)) (z8 ?_));exact⟨dkt,V,jl,(F,c+1,u.1,u.2),Nat.lt_succ_self _,⟨rfl,rfl,trivial⟩,prm,b,trivial⟩;refine jk ?_;exact⟨dkt,k,jl,f,trivial,prm,(Option.some.inj b).symm,trivial⟩;rintro M aN R9 W ⟨rfl,_⟩
 refine zi (zf (.pointer (some ⟨t,0,none⟩)) (zh (.pointer (some ⟨t,0,none⟩)) (z8 (zsq (i:=0) rfl fun an Y ao=>?_))));have ap:PRep z4h an (.pointer (some ⟨t,0,none⟩)) M:=zk7 ao ((co_A64tInti64.iff _ _ _).2 rfl);refine ql ?_;obtain rfl:=Option.some.inj E
 refine q8 (D:=[]) (J:=[]) (rs:=[.tmp 2]) (vs:=[(.pointer (some ⟨t,0,none⟩))]) ((K.trans W).trans Y) rfl rfl ⟨rfl,trivial⟩ ?_;exact⟨rfl,(z1h.2 ap)⟩
theorem q7w:Enters prog 38:=enters_of func38 rfl (by kernel_rfl)
theorem q8z: ∀ w,∃ z,(zeroValue 77).run prog w= .ok z w∧z.cells=([.pointer none]:List Value).toArray:=fun w=>⟨(.pointer none),by kernel_rfl,rfl⟩
theorem q7y: ∀ w,(sizeOf 77).run prog w= .ok 1 w:=fun w=>by kernel_rfl
theorem q4q: ∀ w,(isAgg 77).run prog w= .ok false w:=fun w=>by kernel_rfl
theorem q8c: ∀ w,∃ z,(zeroValue 80).run prog w= .ok z w∧z.cells=([.nilFunc]:List Value).toArray:=fun w=>⟨.nilFunc,by kernel_rfl,rfl⟩
theorem q7z: ∀ w,(sizeOf 80).run prog w= .ok 1 w:=fun w=>by kernel_rfl
theorem q6w: ∀ w,(isAgg 80).run prog w= .ok false w:=fun w=>by kernel_rfl
theorem z0t:FieldOk prog 45 0 0:=by
 obtain⟨i,hi,a⟩: ∃ i,prog.info? 43=some i∧i.size=1:=u6 (by kernel_rfl);exact dn underlying45 rfl rfl hi (by rw [a];rfl)
theorem zy5: ∀ w,(isAgg 43).run prog w= .ok false w:=fun w=>by kernel_rfl
theorem q36:ZeroOk prog 55 rSprobes_Node.H ((0:Int),(0:Int),.slice none 0 0) 40:=by
 obtain⟨i,zv,hi,a,c,d,f⟩:=z2u (P:=prog) (e:=55) (zv:=(.agg #[(vi 0),(vi 0),vs0])) (k:=3) (b:=40) (by kernel_rfl);exact⟨i,zv,hi,a,c,d,fun R=>by subst f;exact⟨_,_,rfl,rfl,⟨_,_,rfl,rfl,⟨rfl,rfl⟩⟩⟩⟩
theorem q5c: ∀ w,(sizeOf 43).run prog w= .ok 1 w:=fun w=>by kernel_rfl
theorem q6r:TyOk prog 55 rSprobes_Node.H:=by
 obtain⟨i,hi,a⟩: ∃ i,prog.info? 55=some i∧i.size=3:=u6 (by kernel_rfl);exact z0u underlying55 hi rfl a
theorem q30:SlOk prog 43 55 rSprobes_Node.H:=⟨underlying43,q6r⟩
theorem zng:FieldOk prog 55 1 1:=by
 obtain⟨i,hi,a⟩: ∃ i,prog.info? 3=some i∧i.size=1:=u6 (by kernel_rfl);exact dn underlying55 rfl rfl hi (by rw [a];rfl)
theorem zkf:FieldOk prog 55 0 0:=by
 obtain⟨i,hi,a⟩: ∃ i,prog.info? 3=some i∧i.size=1:=u6 (by kernel_rfl);exact dn underlying55 rfl rfl hi (by rw [a];rfl)
theorem q72:Enters prog 40:=enters_of func40 rfl (by kernel_rfl)
theorem zcq{N:Nat}(F:Nat): ∀ {R:RH} {now:(List Int)} {S:Value} (ab:VRep (tSl false (qb .i64)) R S now) {p:(List Int)} {E:Value} (ag:VRep (tSl false (qb .i64)) R E p) {b:Nat} {p0_:List Sa} {ac:Value} {fM:Frag} {aC:List Value} (ad:NS rSprobes_Node aC R fM ac p0_) {p1_:Mach} {k:Value} (ae:PRep (jm false false) R k p1_) {a:Nat} {p2_:(Arr 64 Int)} {f:Value} (ah:PRep z4h R f p2_) {d:Nat} {r:Int×List Sa} (x:z1c N F now p p0_ p1_ p2_=some r),CallG prog 40 #[S,E,(.pointer (some ⟨b,0,none⟩)),k,(.pointer (some ⟨a,0,none⟩)),(.pointer (some ⟨d,0,none⟩))] R [box b [ac] 45,fM,box a [f] 77,box d [.func (.func 40) #[] #[(.pointer (some ⟨b,0,none⟩)),k,(.pointer (some ⟨a,0,none⟩)),(.pointer (some ⟨d,0,none⟩))]] 80] (fun v R' O'=> ∃ aP aQ,v=(vi r.1)∧O'=[box b [aP] 45,aQ,box a [f] 77,box d [.func (.func 40) #[] #[(.pointer (some ⟨b,0,none⟩)),k,(.pointer (some ⟨a,0,none⟩)),(.pointer (some ⟨d,0,none⟩))]] 80]∧NS rSprobes_Node aC R' aQ aP r.2):=by
  induction F with
  |zero=>intros;rename_i x;exact qp x
  |succ F ih=>
    intro R now S ab p E ag b p0_ ac fM aC ad p1_ k ae a p2_ f ah d r x
    refine z7p (args:=[S,E,(.pointer (some ⟨b,0,none⟩)),k,(.pointer (some ⟨a,0,none⟩)),(.pointer (some ⟨d,0,none⟩))]) func40 rfl rfl fun A=>?_
    rw [z1c] at x
    obtain⟨aR,a9,ad⟩:=ad
    refine zw ?_
    refine zn ?_
    refine zh (vi 0) ?_
    refine z8 ?_
    refine zw ?_
    refine zn ?_
    refine zk (qi z0t rfl) ?_
    refine zk (qj (i:=0) zy5 rfl rfl rfl) ?_
    refine z2k rfl (zz (zwi rfl underlying43 rfl ad)) fun v1 R3 G h2=>?_
    obtain rfl:=Eq.symm h2
    refine zh (vi (↑p0_.length:Int)) ?_
    refine z8 ?_
    refine zw ?_
    refine zn ?_
    refine je rfl zgc zcd rfl (ae.mono G) fun v5 h6=>?_
    refine qh rfl ty3 rfl h6 fun v7 h8=>?_
    obtain rfl:=jg.1 h8
    obtain⟨ba,x⟩:=zb x
    refine z7i (T:=(qb .i64)) (m:=p1_.outputs.toNat) (c:=p1_.outputs.toNat) rfl underlying32 zo3 (zg rfl ba.1) (zg rfl ba.1) (Nat.le_refl _) (zdv ba) (zdu ba) fun v9 dk bF bS=>?_
    refine zh v9 ?_
    refine z8 ?_
    obtain⟨U,e,x⟩:=zq x
    refine qm (γ:=(List Int)×Frag) (rs [11,12,27,36]) (fun g=>[]) (fun g=>[box b [ac] 45,fM,box a [f] 77,box d [(.func (.func 40) #[] #[(.pointer (some ⟨b,0,none⟩)),k,(.pointer (some ⟨a,0,none⟩)),(.pointer (some ⟨d,0,none⟩))])] 80,g.2]++A) (fun g R=>U=g.1∧ORep (qb .i64) R g.2 v9 g.1∧capOf v9=g.1.length∧True) ?_ ?_
    · refine zw ?_
      refine zn ?_
      refine zf v9 ?_
      refine zk (z3j rfl underlying32 rfl bS) ?_
      refine zf (vi 0) ?_
      refine z8 ?_
      refine zx ?_
      refine jb (γ:=Nat×Int×(List Int)×Frag) (rs [11,12,29,36]) (fun g=>[(29,(vi g.2.1))]) (fun g=>[box b [ac] 45,fM,box a [f] 77,box d [(.func (.func 40) #[] #[(.pointer (some ⟨b,0,none⟩)),k,(.pointer (some ⟨a,0,none⟩)),(.pointer (some ⟨d,0,none⟩))])] 80,g.2.2.2]++A) (fun g R=>z1t N p1_ g.1 g.2.1 g.2.2.1=some U∧ORep (qb .i64) R g.2.2.2 v9 g.2.2.1∧capOf v9=g.2.2.1.length∧True) (fun g=>g.1) (N,0,(mk p1_.outputs (0:Int)),dk) ⟨[],(pk 1 rfl (pk 1 rfl (pk 1 rfl (pk 1 rfl (pk 0 rfl (List.Perm.refl _))))))⟩ ⟨e,bS,(bF.trans List.length_replicate.symm),trivial⟩ ?_
      clear e
      rintro⟨bb,aw,bG,dl⟩ fd fe bT ⟨e,bH,bi,_⟩
      rcases bb with _|bb
      · exact qp e
      replace e:z1t N p1_ (bb+1) aw bG=some U:=e;rw [z1t] at e
      refine zw ?_
      refine zn ?_
      refine zk (j3 rfl rfl) ?_
      refine z8 ?_
      refine zw ?_
      refine zu rfl e (fun e=>?_) (fun e=>?_)
      · refine qa ?_
        refine zw ?_
        refine zx ?_
        refine zw ?_
        refine zn ?_
        refine zf (vi aw) ?_
        refine zh (vi aw) ?_
        refine z8 ?_
        refine zn ?_
        refine zf v9 ?_
        refine zf (vi aw) ?_
        obtain⟨bI,e⟩:=zb e
        refine tq (i:=aw.toNat) rfl z04 rfl bH (zg rfl bI.1) (zy bI) fun ff dm=>?_
        refine z3s (i:=aw.toNat) (j:=4) ty3 bH rfl rfl dm (zy bI) rfl (jg.2 rfl) fun dn dp=>?_
        refine z8 ?_
        refine zn ?_
        obtain⟨dq,e⟩:=zb e
        refine zk (jh rfl rfl dq) ?_
        refine zf (vi (aw+1)) ?_
        refine z8 ?_
        exact⟨dkt,(RH.le.refl _),jl,(bb,aw+1,(up bG aw (-1)),dn),Nat.lt_succ_self _,⟨rfl,trivial⟩,prm,e,dp,(bi.trans List.length_set.symm),trivial⟩
      · refine jk ?_
        exact⟨dkt,bT,jl,(bG,dl),trivial,prm,(Option.some.inj e).symm,bH,bi,trivial⟩
    · rintro⟨U,dr⟩ fg fh s ⟨rfl,bJ,dS,_⟩
      refine zw ?_
      refine zn ?_
      refine zk (qi z0t rfl) ?_
      refine zk (qj (i:=0) zy5 rfl rfl rfl) ?_
      refine zf v9 ?_
      refine zk (z7g [(0,(vi (-1))),(1,(vi (-1))),(2,(.agg #[v9]))] (ps:=[(0,(vi (-1))),(1,(vi (-1))),(2,v9)]) (v:=(.agg #[(vi (-1)),(vi (-1)),v9])) rfl (by simp only [List.map_cons,List.map_nil,z0k bJ];rfl) (fun w=>by kernel_rfl)) ?_
      refine zv6 (K:=rSprobes_Node) (nx:=(((-1):Int),((-1):Int),v9)) (cs:=[(vi (-1)),(vi (-1)),v9]) (u:=(.agg #[(vi (-1)),(vi (-1)),v9])) rfl underlying43 q36 rfl rfl ⟨_,_,rfl,rfl,⟨_,_,rfl,rfl,⟨rfl,z2s bJ⟩⟩⟩ rfl fun fi fj o ds=>?_
      obtain⟨bU,x⟩:=zb x
      refine zi3 (Oc:=[fM,dr]) (Or:=[box b [ac] 45,box a [f] 77,box d [(.func (.func 40) #[] #[(.pointer (some ⟨b,0,none⟩)),k,(.pointer (some ⟨a,0,none⟩)),(.pointer (some ⟨d,0,none⟩))])] 80]++A) rfl (pk 1 rfl (pk 3 rfl (pk 0 rfl (pk 0 rfl (pk 0 rfl (List.Perm.refl _)))))) (zob (K:=rSprobes_Node) (nx:=(⟨(-1),(-1),U⟩:Sa)) underlying43 q36 rfl rfl (ad.mono ((G.trans s).trans o)) (bJ.mono o) ds bU.1 bU.2) ?_
      rintro ai fk dT dU ⟨rfl,aO,rfl,aD⟩
      obtain⟨bc,aS⟩: ∃ V,V=aR++[v9]:=⟨_,rfl⟩;rw [←aS] at aD
      have aq:bc[p0_.length]? =some v9:=by rw [aS];exact q0w (zs3 (ad.mono ((G.trans s).trans o)))
      have aT:=(List.prefix_rfl.trans a9).trans (List.prefix_append aR [v9]);rw [←aS] at aT
      refine zk (qi z0t rfl) ?_
      refine jr (i:=1) (vs:=[ai]) q5c rfl rfl (zyj aD) rfl rfl rfl (qc (q4b aD) jq) ?_
      refine z8 ?_
      refine zw ?_
      refine zw ?_
      refine zn ?_
      refine zf S ?_
      refine zk (qo rfl underlying32 rfl (ja (ab.mono ((G.trans s).trans o)))) ?_
      refine zk (bz rfl rfl) ?_
      refine z8 ?_
      refine zu rfl x (fun x=>?_) (fun x=>?_)
      · refine zw ?_
        refine z4r 8 mixed (by kernel_rfl) (by kernel_rfl) ?_
        refine wh (v:=(.pointer (some ⟨b,0,none⟩))) (qi z0t rfl) ?_
        refine wh (v:=ai) (qj (i:=1) zy5 rfl rfl rfl) ?_
        refine wh (v:=(vi (↑p0_.length:Int))) (ze rfl) ?_
        refine wh (v:=E) (ze rfl) ?_
        obtain⟨bV,x⟩:=zb x
        refine z6v (fw (i:=(0:Int).toNat) z04 rfl (ja (ag.mono ((G.trans s).trans o))) (zg rfl bV.1) (zy bV)) fun fl dt=>?_
        refine wh (rq (gq ty3 rfl dt)) ?_
        obtain⟨bK,x⟩:=zb x
        refine z6v (zsr (i:=(↑p0_.length:Int).toNat) q30 rfl aD (zg rfl bK.1) (zy bK)) fun fm du=>?_
        refine z6v (zgh zng rfl du) fun dv dw=>?_
        intro fn bj
        refine za4 (Oc:=[aO]) (Or:=[box b [ai] 45,box a [f] 77,box d [(.func (.func 40) #[] #[(.pointer (some ⟨b,0,none⟩)),k,(.pointer (some ⟨a,0,none⟩)),(.pointer (some ⟨d,0,none⟩))])] 80]++A) (List.Perm.refl _) (zfy (K:=rSprobes_Node) (i:=(↑p0_.length:Int).toNat) (u:=dv) (nx:=(⟨(ix (p0_++[(⟨(-1),(-1),U⟩:Sa)]) (↑p0_.length:Int)).fB,(ix p 0),(ix (p0_++[(⟨(-1),(-1),U⟩:Sa)]) (↑p0_.length:Int)).fD⟩:Sa)) (q3w zre) ty3 (aD.mono bj) rfl dw (zy bK) rfl (jg.2 rfl) rfl (fun _=>rfl)) ?_
        rintro fo fp dV dW ⟨rfl,bW,rfl,dx⟩
        refine z8 ?_
        refine zw ?_
        refine zn ?_
        refine zf (vi (↑p0_.length:Int)) ?_
        refine zh (vi (↑p0_.length:Int)) ?_
        refine z8 ?_
        refine ql ?_
        obtain rfl:=Option.some.inj x
        refine z5n (D:=[]) (J:=[]) (O':=[box b [ai] 45,bW,box a [f] 77,box d [(.func (.func 40) #[] #[(.pointer (some ⟨b,0,none⟩)),k,(.pointer (some ⟨a,0,none⟩)),(.pointer (some ⟨d,0,none⟩))])] 80]) (rs:=[.tmp 8]) (vs:=[(vi (↑p0_.length:Int))]) (((G.trans s).trans o).trans bj) ((pk 1 rfl (pk 0 rfl (pk 0 rfl (pk 0 rfl (List.Perm.refl _)))))) rfl ⟨rfl,trivial⟩ ?_
        exact⟨ai,bW,rfl,rfl,(zfe (aT.trans List.prefix_rfl) dx)⟩
      · refine qa ?_
        refine zw ?_
        refine zn ?_
        refine zh (.int .u16 0) ?_
        refine z8 ?_
        obtain⟨O,e,x⟩:=zq x
        refine qm (γ:=Int) (rs [12,13,14,15,55,66]) (fun g=>[(12,(.int .u16 g))]) (fun g=>[box b [ai] 45,aO,box a [f] 77,box d [(.func (.func 40) #[] #[(.pointer (some ⟨b,0,none⟩)),k,(.pointer (some ⟨a,0,none⟩)),(.pointer (some ⟨d,0,none⟩))])] 80]++A) (fun g R=>O=g∧True) ?_ ?_
        · refine zw ?_
          refine zn ?_
          refine zf S ?_
          refine zk (qo rfl underlying32 rfl (ja (ab.mono ((G.trans s).trans o)))) ?_
          refine zf (vi 0) ?_
          refine z8 ?_
          refine zx ?_
          refine jb (γ:=Nat×Int×Int) (rs [12,13,14,15,57,66]) (fun g=>[(12,(.int .u16 g.2.1)),(57,(vi g.2.2))]) (fun g=>[box b [ai] 45,aO,box a [f] 77,box d [(.func (.func 40) #[] #[(.pointer (some ⟨b,0,none⟩)),k,(.pointer (some ⟨a,0,none⟩)),(.pointer (some ⟨d,0,none⟩))])] 80]++A) (fun g R=>z1u N now g.1 g.2.1 g.2.2=some O∧True) (fun g=>g.1) (N,0,0) ⟨[],(pk 1 rfl (pk 0 rfl (pk 0 rfl (pk 0 rfl (List.Perm.refl _)))))⟩ ⟨e,trivial⟩ ?_
          clear e
          rintro⟨be,aU,ay⟩ dX fq bk ⟨e,_⟩
          rcases be with _|be
          · exact qp e
          replace e:z1u N now (be+1) aU ay=some O:=e;rw [z1u] at e
          refine zw ?_
          refine zn ?_
          refine zk (j3 rfl rfl) ?_
          refine z8 ?_
          refine zw ?_
          refine zu rfl e (fun e=>?_) (fun e=>?_)
          · refine qa ?_
            refine zw ?_
            refine zx ?_
            refine zw ?_
            refine zn ?_
            obtain⟨bX,e⟩:=zb e
            refine kg (i:=ay.toNat) rfl z04 rfl (ja (ab.mono (((G.trans s).trans o).trans bk))) (zg rfl bX.1) (zy bX) fun fr dy=>?_
            refine qh rfl ty3 rfl dy fun fs dz=>?_
            obtain rfl:=jg.1 dz
            refine zh (vi (ix now ay)) ?_
            refine z8 ?_
            refine zn ?_
            refine zf (.int .u16 aU) ?_
            refine zf (vi (ix now ay)) ?_
            obtain⟨bY,e⟩:=zb e
            refine zk (z7j rfl rfl bY) ?_
            obtain⟨bZ,e⟩:=zb e
            refine zk (zfs rfl rfl bZ) ?_
            refine zh (.int .u16 (ior aU (l9 .u16 (1:Int) (ix now ay)))) ?_
            refine z8 ?_
            refine zn ?_
            obtain⟨b0,e⟩:=zb e
            refine zk (jh rfl rfl b0) ?_
            refine zf (vi (ay+1)) ?_
            refine z8 ?_
            exact⟨dkt,(RH.le.refl _),jl,(be,ior aU (l9 .u16 (1:Int) (ix now ay)),ay+1),Nat.lt_succ_self _,⟨rfl,rfl,trivial⟩,prm,e,trivial⟩
          · refine jk ?_
            exact⟨dkt,bk,jl,aU,⟨rfl,trivial⟩,prm,(Option.some.inj e).symm,trivial⟩
        · rintro O dY ft y ⟨rfl,_⟩
          refine zw ?_
          refine zn ?_
          refine zh (vi 0) ?_
          refine z8 ?_
          obtain⟨t,e,x⟩:=zq x
          refine qm (γ:=Int) (rs [15,16,66,79]) (fun g=>[(15,(vi g))]) (fun g=>[box b [ai] 45,aO,box d [(.func (.func 40) #[] #[(.pointer (some ⟨b,0,none⟩)),k,(.pointer (some ⟨a,0,none⟩)),(.pointer (some ⟨d,0,none⟩))])] 80,box a [f] 77]++A) (fun g R=>t=g∧True) ?_ ?_
          · refine zx ?_
            refine jb (γ:=Nat×Int) (rs [15,16,66,79]) (fun g=>[(15,(vi g.2))]) (fun g=>[box b [ai] 45,aO,box a [f] 77,box d [(.func (.func 40) #[] #[(.pointer (some ⟨b,0,none⟩)),k,(.pointer (some ⟨a,0,none⟩)),(.pointer (some ⟨d,0,none⟩))])] 80]++A) (fun g R=>z1p N p1_ p2_ O g.1 g.2=some t∧True) (fun g=>g.1) (N,0) prm ⟨e,trivial⟩ ?_
            clear e
            rintro⟨aH,W⟩ dZ d5 aj ⟨e,_⟩
            rcases aH with _|aH
            · exact qp e
            replace e:z1p N p1_ p2_ O (aH+1) W=some t:=e;rw [z1p] at e
            refine zw ?_
            refine zw ?_
            obtain⟨b1,e⟩:=zb e
            obtain⟨bl,b2,e⟩:=zq e
            refine mf 11 [] [phX f,phR (jm false false) p1_,phX (.int .u16 O),phX (vi W),phX f,phX (.int .u16 O),phX f,phP (qb .i64) (ix p2_.1 O),phX (vi (ix p2_.1 O)),phX (.bool bl),phX (.bool (!bl))] mixed (by kernel_rfl) (bu ⟨zt,gu,zt,zt,zt,zt,zt,uo,zt,zt,zt,trivial⟩) ⟨?_,?_,?_,?_,?_,?_,?_,?_,?_,?_,?_,trivial⟩ fun d6 aV=>?_
            · intro l fu Z ha hd
              have a4:l 4=(.pointer (some ⟨a,0,none⟩)):=ha 4 rfl
              exact za rfl rfl rfl (zz (qj (i:=2) q4q a4 rfl rfl))
            · intro l fv Z ha hd
              have a3:l 3=k:=ha 3 rfl
              exact za rfl rfl rfl (jo z1b a3 ((ae.mono ((((G.trans s).trans o).trans y).trans aj)).mono Z))
            · intro l fy Z ha hd
              have bL:l 12=(.int .u16 O):=ha 12 rfl
              exact za rfl rfl rfl (zz (ze bL))
            · intro l fz Z ha hd
              have dB:l 15=(vi W):=ha 15 rfl
              exact za rfl rfl rfl (zz (ze dB))
            · intro l fA Z ha hd
              have a4:l 4=(.pointer (some ⟨a,0,none⟩)):=ha 4 rfl
              exact za rfl rfl rfl (zz (qj (i:=2) q4q a4 rfl rfl))
            · intro l fC Z ha hd
              have bL:l 12=(.int .u16 O):=ha 12 rfl
              exact za rfl rfl rfl (zz (ze bL))
            · rintro l fF Z ha ⟨d0,_⟩
              have dC:=d0 rfl
              exact za rfl rfl rfl (zz (z9x dC ((ah.mono ((((G.trans s).trans o).trans y).trans aj)).mono Z)))
            · rintro l fG Z ha ⟨d0,d1,_⟩
              have dE:=d0 rfl
              have dF:=d1 rfl
              exact za rfl rfl rfl (zk9 (X:=p2_) (q:=O) zuk rfl dE ((ah.mono ((((G.trans s).trans o).trans y).trans aj)).mono Z) dF b1)
            · rintro l fH Z ha ⟨d0,_⟩
              have dG:=d0 rfl
              exact za rfl rfl rfl (gp (jo ty3 rfl dG) (fun _ _ h=>jg.1 h))
            · rintro l fI Z ha ⟨d0,d1,d2,d3,d4,_⟩
              have dH:l 66=f:=d0 rfl
              have dI:=d1 rfl
              have dJ:l 68=(.int .u16 O):=d2 rfl
              have dK:l 69=(vi W):=d3 rfl
              have dL:l 74=(vi (ix p2_.1 O)):=d4 rfl
              exact za rfl rfl rfl (xk (vs:=[f,(l 67),(.int .u16 O),(vi W),(vi (ix p2_.1 O))]) q6h (by simp only [List.map,ev,dH,dJ,dK,dL]<;>rfl) (z6c (z1h.2 ((ah.mono ((((G.trans s).trans o).trans y).trans aj)).mono Z)) dI b2) (fun _ _ h=>h))
            · rintro l d7 Z ha ⟨d0,_⟩
              have dM:=d0 rfl
              exact za rfl rfl rfl (zz (z0g dM))
            intro d8 b4
            intro d9 ea
            intro eb b5
            intro ec b6
            intro ed b7
            intro ee b8
            intro ef b9
            intro eg eh
            intro ei ca
            intro ej cb
            intro ek cc
            obtain rfl:=Eq.symm b4
            obtain rfl:=Eq.symm b5
            obtain rfl:=Eq.symm b6
            obtain rfl:=Eq.symm b7
            obtain rfl:=Eq.symm b8
            obtain rfl:=Eq.symm b9
            obtain rfl:=Eq.symm ca
            obtain rfl:=Eq.symm cb
            obtain rfl:=Eq.symm cc
            refine z8 ?_
            refine zu rfl e (fun e=>?_) (fun e=>?_)
            · refine qa ?_
              refine zx ?_
              refine zn ?_
              refine zf (vi W) ?_
              obtain⟨cd,e⟩:=zb e
              refine zk (jh rfl rfl cd) ?_
              refine zh (vi (W+1)) ?_
              refine z8 ?_
              exact⟨dkt,aV,jl,(aH,W+1),Nat.lt_succ_self _,⟨rfl,trivial⟩,prm,e,trivial⟩
            · refine jk ?_
              exact⟨dkt,(aj.trans aV),jl,W,⟨rfl,trivial⟩,⟨[],(pk 0 rfl (pk 0 rfl (pk 1 rfl (pk 0 rfl (List.Perm.refl _)))))⟩,(Option.some.inj e).symm,trivial⟩
          · rintro t el em z ⟨rfl,_⟩
            refine zw ?_
            refine zn ?_
            refine zk (qi z0t rfl) ?_
            refine zk (qj (i:=0) zy5 rfl rfl rfl) ?_
            refine zf (vi (↑p0_.length:Int)) ?_
            refine zf (vi t) ?_
            obtain⟨aW,x⟩:=zb x
            refine z2k rfl (zsl (i:=(↑p0_.length:Int).toNat) q30 rfl (aD.mono (y.trans z)) (zg rfl aW.1) (zy aW)) fun en eo I ce=>?_
            refine z2k rfl (zd5 zkf rfl ce) fun cf ep L cg=>?_
            refine za4 (Oc:=[aO]) (Or:=[box b [ai] 45,box d [(.func (.func 40) #[] #[(.pointer (some ⟨b,0,none⟩)),k,(.pointer (some ⟨a,0,none⟩)),(.pointer (some ⟨d,0,none⟩))])] 80,box a [f] 77]++A) (pk 1 rfl (pk 0 rfl (pk 0 rfl (pk 0 rfl (List.Perm.refl _))))) (zfy (K:=rSprobes_Node) (i:=(↑p0_.length:Int).toNat) (u:=cf) (nx:=(⟨t,(ix (p0_++[(⟨(-1),(-1),U⟩:Sa)]) (↑p0_.length:Int)).fE,(ix (p0_++[(⟨(-1),(-1),U⟩:Sa)]) (↑p0_.length:Int)).fD⟩:Sa)) zre ty3 (aD.mono (((y.trans z).trans I).trans L)) rfl cg (zy aW) rfl (jg.2 rfl) rfl (fun _=>rfl)) ?_
            rintro eq er dN dO ⟨rfl,ch,rfl,aX⟩
            refine z8 ?_
            obtain⟨aI,e,x⟩:=zq x
            refine qm (γ:=(List Sa)×Value×Frag) (rs [16,21,85,139]) (fun g=>[]) (fun g=>[box b [g.2.1] 45,g.2.2,box a [f] 77,box d [(.func (.func 40) #[] #[(.pointer (some ⟨b,0,none⟩)),k,(.pointer (some ⟨a,0,none⟩)),(.pointer (some ⟨d,0,none⟩))])] 80]++A) (fun g R=>aI=g.1∧NS rSprobes_Node bc R g.2.2 g.2.1 g.1∧True) ?_ ?_
            · refine zw ?_
              refine zn ?_
              refine zf v9 ?_
              refine z2k rfl (zz (zsk (K:=rSprobes_Node) (r:=p0_.length) rfl underlying32 aX (zsc List.prefix_rfl aq aX) (zs2 List.prefix_rfl aq) rfl)) fun es et M ci=>?_
              obtain rfl:=Eq.symm ci
              refine zf (vi 0) ?_
              refine z8 ?_
              refine zx ?_
              refine jb (γ:=Nat×Int×(List Sa)×Value×Frag) (rs [16,21,87,139]) (fun g=>[(87,(vi g.2.1))]) (fun g=>[box d [(.func (.func 40) #[] #[(.pointer (some ⟨b,0,none⟩)),k,(.pointer (some ⟨a,0,none⟩)),(.pointer (some ⟨d,0,none⟩))])] 80,box b [g.2.2.2.1] 45,g.2.2.2.2,box a [f] 77]++A) (fun g R=>z1r N (z1c N F) now p p0_ p1_ p2_ U t g.1 g.2.1 g.2.2.1=some aI∧NS rSprobes_Node bc R g.2.2.2.2 g.2.2.2.1 g.2.2.1∧True) (fun g=>g.1) (N,0,(up (p0_++[(⟨(-1),(-1),U⟩:Sa)]) (↑p0_.length:Int) (⟨t,(ix (p0_++[(⟨(-1),(-1),U⟩:Sa)]) (↑p0_.length:Int)).fE,(ix (p0_++[(⟨(-1),(-1),U⟩:Sa)]) (↑p0_.length:Int)).fD⟩:Sa)),ai,ch) ⟨[],(pk 2 rfl (pk 1 rfl (pk 0 rfl (pk 0 rfl (List.Perm.refl _)))))⟩ ⟨e,(zfe List.prefix_rfl (aX.mono M)),trivial⟩ ?_
              clear e
              rintro⟨aJ,H,aY,ar,au⟩ eu ew P ⟨e,⟨ex,aE,aZ⟩,_⟩
              rcases aJ with _|aJ
              · exact qp e
              replace e:z1r N (z1c N F) now p p0_ p1_ p2_ U t (aJ+1) H aY=some aI:=e;rw [z1r] at e
              refine zw ?_
              refine zn ?_
              refine zk (j3 rfl rfl) ?_
              refine z8 ?_
              refine zw ?_
              refine zu rfl e (fun e=>?_) (fun e=>?_)
              · refine qa ?_
                obtain⟨a0,ak,e⟩:=zq e
                refine qm (γ:=(List Sa)×Value×Frag) (rs [16,21,89,138]) (fun g=>[]) (fun g=>[box d [(.func (.func 40) #[] #[(.pointer (some ⟨b,0,none⟩)),k,(.pointer (some ⟨a,0,none⟩)),(.pointer (some ⟨d,0,none⟩))])] 80,box b [g.2.1] 45,g.2.2,box a [f] 77]++A) (fun g R=>a0=g.1∧NS rSprobes_Node bc R g.2.2 g.2.1 g.1∧True) ?_ ?_
                · refine zx ?_
                  refine zw ?_
                  refine zn ?_
                  refine zf (vi H) ?_
                  refine zh (vi H) ?_
                  refine z8 ?_
                  refine zw ?_
                  refine zn ?_
                  refine zh vs0 ?_
                  refine zh vs0 ?_
                  refine z8 ?_
                  obtain⟨av,Q,ak⟩:=zq ak
                  refine qm (γ:=(List Int×List Int)×Value×Frag×Value×Frag) (rs [17,21,90,128]) (fun g=>[(17,g.2.1),(18,g.2.2.2.1)]) (fun g=>[box d [(.func (.func 40) #[] #[(.pointer (some ⟨b,0,none⟩)),k,(.pointer (some ⟨a,0,none⟩)),(.pointer (some ⟨d,0,none⟩))])] 80,box b [ar] 45,au,box a [f] 77,g.2.2.1,g.2.2.2.2]++A) (fun g R=>av=g.1∧ORep (qb .i64) R g.2.2.1 g.2.1 g.1.1∧ORep (qb .i64) R g.2.2.2.2 g.2.2.2.1 g.1.2∧True) ?_ ?_
                  · refine zw ?_
                    refine zn ?_
                    refine zf S ?_
                    refine zk (qo rfl underlying32 rfl (ja (ab.mono ((((((((G.trans s).trans o).trans y).trans z).trans I).trans L).trans M).trans P)))) ?_
                    refine zf (vi 0) ?_
                    refine z8 ?_
                    refine zx ?_
                    refine z3e ?_
                    refine z3e ?_
                    refine jb (γ:=Nat×(List Int)×(List Int)×Int×Value×Frag×Value×Frag) (rs [17,21,92,128]) (fun g=>[(17,g.2.2.2.2.1),(18,g.2.2.2.2.2.2.1),(92,(vi g.2.2.2.1))]) (fun g=>[box d [(.func (.func 40) #[] #[(.pointer (some ⟨b,0,none⟩)),k,(.pointer (some ⟨a,0,none⟩)),(.pointer (some ⟨d,0,none⟩))])] 80,box b [ar] 45,au,box a [f] 77,g.2.2.2.2.2.1,g.2.2.2.2.2.2.2]++A) (fun g R=>z2f N now p p1_ t H g.1 g.2.1 g.2.2.1 g.2.2.2.1=some av∧ORep (qb .i64) R g.2.2.2.2.2.1 g.2.2.2.2.1 g.2.1∧ORep (qb .i64) R g.2.2.2.2.2.2.2 g.2.2.2.2.2.2.1 g.2.2.1∧True) (fun g=>g.1) (N,[],[],0,vs0,emp,vs0,emp) ⟨[],(pk 2 rfl (pk 2 rfl (pk 2 rfl (pk 2 rfl (pk 1 rfl (pk 0 rfl (List.Perm.refl _)))))))⟩ ⟨Q,(z09 (T:=(qb .i64))),(z09 (T:=(qb .i64))),trivial⟩ ?_
                    clear Q
                    rintro⟨aK,az,aA,n,a1,bm,a2,bn⟩ ey ez al ⟨Q,a5,a6,_⟩
                    rcases aK with _|aK
                    · exact qp Q
                    replace Q:z2f N now p p1_ t H (aK+1) az aA n=some av:=Q;rw [z2f] at Q
                    refine zw ?_
                    refine zn ?_
                    refine zk (j3 rfl rfl) ?_
                    refine z8 ?_
                    refine zw ?_
                    refine zu rfl Q (fun Q=>?_) (fun Q=>?_)
                    · refine qa ?_
                      obtain⟨aL,C,Q⟩:=zq Q
                      refine qm (γ:=(List Int×List Int)×Value×Frag×Value×Frag) (rs [17,21,94,127]) (fun g=>[(17,g.2.1),(18,g.2.2.2.1)]) (fun g=>[box d [(.func (.func 40) #[] #[(.pointer (some ⟨b,0,none⟩)),k,(.pointer (some ⟨a,0,none⟩)),(.pointer (some ⟨d,0,none⟩))])] 80,box b [ar] 45,au,box a [f] 77,g.2.2.1,g.2.2.2.2]++A) (fun g R=>aL=g.1∧ORep (qb .i64) R g.2.2.1 g.2.1 g.1.1∧ORep (qb .i64) R g.2.2.2.2 g.2.2.2.1 g.1.2∧True) ?_ ?_
                      · refine zx ?_
                        refine zw ?_
                        refine zn ?_
                        refine zf (vi n) ?_
                        obtain⟨bo,C⟩:=zb C
                        refine kg (i:=n.toNat) rfl z04 rfl (ja (ab.mono (((((((((G.trans s).trans o).trans y).trans z).trans I).trans L).trans M).trans P).trans al))) (zg rfl bo.1) (zy bo) fun eA cj=>?_
                        refine qh rfl ty3 rfl cj fun eB ck=>?_
                        obtain rfl:=jg.1 ck
                        refine zh (vi n) ?_
                        refine zh (vi (ix now n)) ?_
                        refine z8 ?_
                        refine zw ?_
                        refine zn ?_
                        refine je rfl xe ui rfl (ae.mono (((((((((G.trans s).trans o).trans y).trans z).trans I).trans L).trans M).trans P).trans al)) fun eC cl=>?_
                        refine qh rfl z3h rfl cl fun eD cm=>?_
                        refine zf (vi (ix now n)) ?_
                        obtain⟨bp,C⟩:=zb C
                        refine kg (i:=(ix now n).toNat) rfl zby rfl (ja cm) (zg rfl bp.1) (zy bp) fun eE cn=>?_
                        refine qh rfl zbd rfl cn fun eF co=>?_
                        refine zf (vi t) ?_
                        obtain⟨bq,C⟩:=zb C
                        refine kg (i:=t.toNat) rfl zc0 rfl (ja co) (zg rfl bq.1) (zy bq) fun eG cp=>?_
                        refine je rfl z97 zkg rfl cp fun eH cq=>?_
                        refine qh rfl ty3 rfl cq fun eI cr=>?_
                        obtain rfl:=jg.1 cr
                        refine zf (vi H) ?_
                        refine zk (bz rfl rfl) ?_
                        refine z8 ?_
                        refine zu rfl C (fun C=>?_) (fun C=>?_)
                        · refine zw ?_
                          refine zn ?_
                          refine zf a1 ?_
                          refine je rfl xe ui rfl (ae.mono (((((((((G.trans s).trans o).trans y).trans z).trans I).trans L).trans M).trans P).trans al)) fun eJ ct=>?_
                          refine qh rfl z3h rfl ct fun eK cu=>?_
                          refine zf (vi (ix now n)) ?_
                          obtain⟨br,C⟩:=zb C
                          refine kg (i:=(ix now n).toNat) rfl zby rfl (ja cu) (zg rfl br.1) (zy br) fun eL cv=>?_
                          refine qh rfl zbd rfl cv fun eM cw=>?_
                          refine zf (vi t) ?_
                          obtain⟨bs,C⟩:=zb C
                          refine kg (i:=t.toNat) rfl zc0 rfl (ja cw) (zg rfl bs.1) (zy bs) fun eN cx=>?_
                          refine je rfl z0l zae rfl cx fun eO cy=>?_
                          refine qh rfl ty3 rfl cy fun eP cz=>?_
                          obtain rfl:=jg.1 cz
                          let G1:=([(ix (ix p1_.rows (ix now n)) t).to]:List Int)
                          refine ol (T:=(qb .i64)) (X:=G1) (ps:=[(0,(vi ((ix (ix p1_.rows (ix now n)) t).to)))]) (css:=[[(vi ((ix (ix p1_.rows (ix now n)) t).to))]]) rfl underlying32 zo3 rfl rfl (kv ⟨rfl,trivial⟩) rfl rfl (by decide) fun cA eQ bg cB=>?_
                          refine y5 (i:=0) rfl cB fun cC ax cD=>?_
                          have cE:VRep (tSl true (qb .i64)) cC cA G1:=(z3a cD bg)
                          obtain⟨bt,C⟩:=zb C
                          refine dh (i:=4) (X:=az) (Y:=G1) rfl underlying32 zo3 rfl rfl rfl (a5.mono ax) (ja (Sub.v (B:=(tSl false (qb .i64))) (uf Sub.refl (fun _=>rfl)) cE)) bt.1 bt.2 fun bv cF cG=>?_
                          refine zh bv ?_
                          refine z8 ?_
                          refine zn ?_
                          refine zf a2 ?_
                          refine zf E ?_
                          refine zf (vi n) ?_
                          obtain⟨bw,C⟩:=zb C
                          refine kg (i:=n.toNat) rfl z04 rfl (ja (ag.mono ((((((((((G.trans s).trans o).trans y).trans z).trans I).trans L).trans M).trans P).trans al).trans ax))) (zg rfl bw.1) (zy bw) fun eR cH=>?_
                          refine qh rfl ty3 rfl cH fun eS cI=>?_
                          obtain rfl:=jg.1 cI
                          refine ol (T:=(qb .i64)) (X:=([(ix p n)]:List Int)) (ps:=[(0,(vi (ix p n)))]) (css:=[[(vi (ix p n))]]) rfl underlying32 zo3 rfl rfl (kv ⟨rfl,trivial⟩) rfl rfl (by decide) fun cJ eT bh cK=>?_
                          refine y5 (i:=0) rfl cK fun cL aF cM=>?_
                          have cN:VRep (tSl true (qb .i64)) cL cJ ([(ix p n)]:List Int):=(z3a cM bh)
                          obtain⟨bx,C⟩:=zb C
                          refine dh (i:=5) (X:=aA) (Y:=([(ix p n)]:List Int)) rfl underlying32 zo3 rfl rfl rfl (a6.mono (ax.trans aF)) (ja (Sub.v (B:=(tSl false (qb .i64))) (uf Sub.refl (fun _=>rfl)) cN)) bx.1 bx.2 fun bA cO cP=>?_
                          refine zh bA ?_
                          refine z8 ?_
                          exact⟨dkt,(ax.trans aF),jl,(((az++G1),(aA++([(ix p n)]:List Int))),bv,cF,bA,cO),⟨rfl,rfl,trivial⟩,prm,(Option.some.inj C).symm,(cG.mono aF),cP,trivial⟩
                        · refine qa ?_
                          exact⟨dkt,(RH.le.refl _),jl,((az,aA),a1,bm,a2,bn),⟨rfl,rfl,trivial⟩,prm,(Option.some.inj C).symm,a5,a6,trivial⟩
                      · rintro⟨aL,cQ,cR,cS,cT⟩ eU eV bM ⟨rfl,cU,cV,_⟩
                        refine zn ?_
                        obtain⟨cW,Q⟩:=zb Q
                        refine zk (jh rfl rfl cW) ?_
                        refine zf (vi (n+1)) ?_
                        refine z8 ?_
                        exact⟨dkt,bM,jl,(aK,aL.1,aL.2,n+1,cQ,cR,cS,cT),Nat.lt_succ_self _,⟨rfl,rfl,rfl,trivial⟩,prm,Q,cU,cV,trivial⟩
                    · refine jk ?_
                      exact⟨dkt,al,jl,((az,aA),a1,bm,a2,bn),⟨rfl,rfl,trivial⟩,prm,(Option.some.inj Q).symm,a5,a6,trivial⟩
                  · rintro⟨av,aM,cX,a7,cY⟩ eW eX af ⟨rfl,bB,cZ,_⟩
                    refine zw ?_
                    refine zn ?_
                    refine zf aM ?_
                    refine zk (z3j rfl underlying32 rfl bB) ?_
                    refine zk (z6f rfl rfl) ?_
                    refine z8 ?_
                    refine zu rfl ak (fun ak=>?_) (fun ak=>?_)
                    · refine zn ?_
                      refine zf v9 ?_
                      refine zf (vi H) ?_
                      refine zk (qj (i:=0) q6w rfl rfl rfl) ?_
                      refine zf aM ?_
                      refine zf a7 ?_
                      refine y5 (i:=4) rfl bB fun c0 am c1=>?_
                      have c2:VRep (tSl false (qb .i64)) c0 aM av.1:=(z5t c1)
                      refine y5 (i:=4) rfl (cZ.mono am) fun c3 an c4=>?_
                      have c5:VRep (tSl false (qb .i64)) c3 a7 av.2:=(z5t c4)
                      obtain⟨aa,c6,ak⟩:=zq ak
                      refine zey (Oc:=[box b [ar] 45,au,box a [f] 77,box d [(.func (.func 40) #[] #[(.pointer (some ⟨b,0,none⟩)),k,(.pointer (some ⟨a,0,none⟩)),(.pointer (some ⟨d,0,none⟩))])] 80]) (Or:=[]++A) (cs:=[(.pointer (some ⟨b,0,none⟩)),k,(.pointer (some ⟨a,0,none⟩)),(.pointer (some ⟨d,0,none⟩))]) (vs:=[aM,a7]) rfl q72 rfl rfl ((pk 1 rfl (pk 1 rfl (pk 1 rfl (pk 0 rfl (List.Perm.refl _)))))) (ih (c2.mono an) c5 (zfe aE (aZ.mono ((af.trans am).trans an))) (ae.mono (((((((((((G.trans s).trans o).trans y).trans z).trans I).trans L).trans M).trans P).trans af).trans am).trans an)) (ah.mono (((((((((((G.trans s).trans o).trans y).trans z).trans I).trans L).trans M).trans P).trans af).trans am).trans an)) c6) fun eY eZ dP bN c7=>?_
                      obtain⟨bC,c8,rfl,rfl,⟨e0,ao,aN⟩⟩:=c7
                      obtain⟨a8,ak⟩:=zb ak
                      refine z2k rfl (zqt (K:=rSprobes_Node) (i:=H.toNat) (r:=p0_.length) z04 aN (zsc ao aq aN) (zs2 ao aq) rfl (zg rfl a8.1) (zy a8)) fun c9 e1 aG da=>?_
                      refine za4 (Oc:=[c8]) (Or:=[box b [bC] 45,box a [f] 77,box d [(.func (.func 40) #[] #[(.pointer (some ⟨b,0,none⟩)),k,(.pointer (some ⟨a,0,none⟩)),(.pointer (some ⟨d,0,none⟩))])] 80]++A) (pk 1 rfl (pk 0 rfl (pk 0 rfl (pk 0 rfl (List.Perm.refl _))))) (zpg (K:=rSprobes_Node) (i:=H.toNat) (r:=p0_.length) (u:=c9) (u0:=v9) (nx:=(⟨(aa.2.getD p0_.length default).fB,(aa.2.getD p0_.length default).fE,up (aa.2.getD p0_.length default).fD H aa.1⟩:Sa)) ty3 (aN.mono aG) (zsc ao aq (aN.mono aG)) (zs2 ao aq) rfl da (zy a8) rfl (jg.2 rfl) rfl (fun _=>rfl)) ?_
                      rintro e2 e3 dQ dR ⟨rfl,db,rfl,dc⟩
                      refine z8 ?_
                      exact⟨dkt,((((af.trans am).trans an).trans bN).trans aG),jl,((aa.2.set p0_.length (⟨(aa.2.getD p0_.length default).fB,(aa.2.getD p0_.length default).fE,up (aa.2.getD p0_.length default).fD H aa.1⟩:Sa)),bC,db),trivial,⟨[],(pk 3 rfl (pk 1 rfl (pk 0 rfl (pk 0 rfl (List.Perm.refl _)))))⟩,(Option.some.inj ak).symm,(zfe ao dc),trivial⟩
                    · refine qa ?_
                      exact⟨dkt,af,jl,(aY,ar,au),trivial,⟨[cX,cY],(pk 4 rfl (pk 4 rfl (pk 0 rfl (pk 0 rfl (pk 0 rfl (pk 0 rfl (List.Perm.refl _)))))))⟩,(Option.some.inj ak).symm,(zfe aE (aZ.mono af)),trivial⟩
                · rintro⟨a0,dd,de⟩ e4 e5 bO ⟨rfl,⟨e6,bP,df⟩,_⟩
                  refine zn ?_
                  obtain⟨dg,e⟩:=zb e
                  refine zk (jh rfl rfl dg) ?_
                  refine zf (vi (H+1)) ?_
                  refine z8 ?_
                  exact⟨dkt,bO,jl,(aJ,H+1,a0,dd,de),Nat.lt_succ_self _,⟨rfl,trivial⟩,prm,e,(zfe bP df),trivial⟩
              · refine jk ?_
                exact⟨dkt,(M.trans P),jl,(aY,ar,au),trivial,⟨[],(pk 1 rfl (pk 1 rfl (pk 1 rfl (pk 0 rfl (List.Perm.refl _)))))⟩,(Option.some.inj e).symm,(zfe aE aZ),trivial⟩
            · rintro⟨aI,bD,bE⟩ e7 e8 bQ ⟨rfl,⟨e9,bR,di⟩,_⟩
              refine zw ?_
              refine zn ?_
              refine zf (vi (↑p0_.length:Int)) ?_
              refine zh (vi (↑p0_.length:Int)) ?_
              refine z8 ?_
              refine ql ?_
              obtain rfl:=Option.some.inj x
              refine z5n (D:=[]) (J:=[]) (O':=[box b [bD] 45,bE,box a [f] 77,box d [(.func (.func 40) #[] #[(.pointer (some ⟨b,0,none⟩)),k,(.pointer (some ⟨a,0,none⟩)),(.pointer (some ⟨d,0,none⟩))])] 80]) (rs:=[.tmp 8]) (vs:=[(vi (↑p0_.length:Int))]) (((((((G.trans s).trans o).trans y).trans z).trans I).trans L).trans bQ) ((pk 0 rfl (pk 0 rfl (pk 0 rfl (pk 0 rfl (List.Perm.refl _)))))) rfl ⟨rfl,trivial⟩ ?_
              exact⟨bD,bE,rfl,rfl,(zfe (aT.trans bR) di)⟩
theorem zgp{N:Nat}{R:RH}{now:(List Int)}{g:Value}(n:VRep (tSl false (qb .i64)) R g now){h:(List Int)}{e:Value}(i:VRep (tSl false (qb .i64)) R e h){a:Nat}{p0_:List Sa}{j:Value}{fM:Frag}{k:List Value}(o:NS rSprobes_Node k R fM j p0_){p1_:Mach}{d:Value}(p:PRep (jm false false) R d p1_){b:Nat}{p2_:(Arr 64 Int)}{f:Value}(q:PRep z4h R f p2_){c:Nat}{r:Int×List Sa}(s:z1c N N now h p0_ p1_ p2_=some r):CallG prog 40 #[g,e,(.pointer (some ⟨a,0,none⟩)),d,(.pointer (some ⟨b,0,none⟩)),(.pointer (some ⟨c,0,none⟩))] R [box a [j] 45,fM,box b [f] 77,box c [.func (.func 40) #[] #[(.pointer (some ⟨a,0,none⟩)),d,(.pointer (some ⟨b,0,none⟩)),(.pointer (some ⟨c,0,none⟩))]] 80] (fun v R' O'=> ∃ l m,v=(vi r.1)∧O'=[box a [l] 45,m,box b [f] 77,box c [.func (.func 40) #[] #[(.pointer (some ⟨a,0,none⟩)),d,(.pointer (some ⟨b,0,none⟩)),(.pointer (some ⟨c,0,none⟩))]] 80]∧NS rSprobes_Node k R' m l r.2):=zcq N n i o p q s
theorem q3o{a:Bool}:TyOk prog 55 (qf a):=by
 obtain⟨i,hi,b⟩: ∃ i,prog.info? 55=some i∧i.size=3:=u6 (by kernel_rfl);exact z0u underlying55 hi rfl b
theorem zlf{a:Bool}:SlOk prog 43 55 (qf a):=⟨underlying43,q3o⟩
theorem z9e{N:Nat}{R:RH}{s:(List Sa)}{a:Value}(b:VRep (tSl false (qf false)) R a s){r:(List Sa)}(c:z2v N s=some r):CallP prog 42 #[a] R (fun v R'=>VRep (tSl true (qf false)) R' v r):=by
 refine qd (args:=[a]) func42 rfl rfl fun A=>?_;rw [z2v] at c;refine zi (zh vs0 (qw (zf a (zf a (zk (qo rfl underlying43 rfl (ja b)) (zf a (zk (qo rfl underlying43 rfl (ja b)) ?_)))))));obtain⟨d,c⟩:=zb c
 refine zak (v:=a) (lo:=(0:Int).toNat) (hi:=(↑s.length:Int).toNat) (mx:=(↑s.length:Int).toNat) rfl zlf rfl (ja b) (.inl ⟨rfl,rfl⟩) (.inr ⟨_,congrArg some (zg rfl (zj3 d))⟩) (.inr ⟨_,congrArg some (zg rfl (zj3 d))⟩) (zmb d) (zbp d) (Nat.le_refl _) (Nat.le_trans (zbp d) (zs7 (ja b))) (X':=(cut s 0 (↑s.length:Int))) rfl fun f g e=>?_
 have h:VRep (tSl true (qf false)) R f (cut s 0 (↑s.length:Int)):=z3a g (e.trans (zo5 d).symm);refine zh f (z8 (ql ?_));obtain rfl:=Option.some.inj c;refine q8 (D:=[]) (J:=[]) (rs:=[.tmp 2]) (vs:=[f]) (RH.le.refl _) rfl rfl ⟨rfl,trivial⟩ ?_;exact⟨rfl,h⟩
theorem q8t:Enters prog 42:=enters_of func42 rfl (by kernel_rfl)
theorem zlc: ∀ w,(isAgg 45).run prog w= .ok true w:=fun w=>by kernel_rfl
theorem zir{N:Nat}{R:RH}{m:Mach}{F:Value}(q:VRep (jm false false) R F m){r:Sd×Int}(a:zbh N m=some r):CallP prog 15 #[F] R (fun v R'=> ∃ u0,v= .tuple #[u0,(vi r.2)]∧VRep (ut true false) R' u0 r.1):=by
 refine qd (args:=[F]) func15 rfl rfl fun A=>?_;rw [zbh] at a;refine zi (ky (T:=(jm false false)) rfl rfl rfl q fun G R3 n h5 h2=>?_);refine ko rfl q2c fun L=>?_;refine zh (vi 0) (z8 (zw (zi (zk (jy z1b rfl rfl h5 (q.mono n)) ?_))));obtain⟨M,c9,a⟩:=zq a
 refine jd rfl q37 rfl (z92 (q.mono n) c9) fun aO aP c ah=>?_;obtain rfl:=ah;refine zh (vi M) (qw (zf (vi M) (zk (pg rfl rfl) (z8 (zu rfl a (fun a=>?_) (fun a=>?_))))))
 refine zi (zk (xm (ps:=[]) (v:=(.agg #[vs0])) rfl (fun w=>by kernel_rfl)) (zf (vi M) (jr (i:=0) (vs:=[vs0]) zeh rfl rfl rfl rfl rfl rfl (qc rfl jq) ?_)));refine zh (vi M) (z8 (ql ?_));obtain rfl:=Option.some.inj a
 refine q8 (D:=[]) (J:=[box L [vs0] 45]) (rs:=[.cell 2 45,.tmp 3]) (vs:=[(.agg #[vs0]),(vi M)]) (n.trans c) rfl rfl ⟨⟨_,rfl,fun w O=>z0e (i:=0) O rfl rfl zlc zeh rfl rfl⟩,rfl,trivial⟩ ?_
 exact⟨rfl,⟨(.agg #[vs0]),rfl,(⟨_,(kz (T:=(tSl true (qf false))) rfl z3y),rfl⟩:VRep (ut true false) _ _ (⟨[]⟩:Sd))⟩⟩;refine qa (zi (zk (jy z1b rfl rfl (h5.mono c) (q.mono (n.trans c))) ?_));obtain⟨aQ,ai,a⟩:=zq a
 refine jd rfl q7w rfl (zgz (q.mono (n.trans c)) ai) fun p aR k y=>?_;refine ko rfl q8z fun d=>?_;refine jr (i:=0) (vs:=[p]) q7y rfl rfl (zo8 (zqg (z1h.1 y))) rfl rfl rfl (qc (zqg (z1h.1 y)) jq) ?_;refine qw (je rfl xe ui rfl (h2.mono (c.trans k)) fun aS aj=>?_)
 refine qh rfl z3h rfl aj fun aT ak=>?_;refine zk (qo rfl underlying28 rfl (ja ak)) ?_;obtain⟨al,a⟩:=zb a
 refine zk (z7j rfl rfl al) (zk (ziq rfl rfl) (zh (.int .u16 (IntKind.u16.wrap ((l9 .u16 (1:Int) (↑m.rows.length:Int))-1))) (z8 (zw (zi (zk (qj (i:=0) q4q rfl rfl rfl) (zf (.int .u16 (IntKind.u16.wrap ((l9 .u16 (1:Int) (↑m.rows.length:Int))-1))) ?_)))))));obtain⟨aU,am,a⟩:=zq a
 refine jd rfl q4d rfl (z4d (z1h.2 (z1h.1 y)) am) fun aV aW l an=>?_;obtain rfl:=an;refine zk (z0g rfl) (z8 (zu rfl a (fun a=>?_) (fun a=>?_)))
 refine zi (zk (xm (ps:=[]) (v:=(.agg #[vs0])) rfl (fun w=>by kernel_rfl)) (jr (i:=1) (vs:=[vs0]) zeh rfl rfl rfl rfl rfl rfl (qc rfl jq) ?_));refine zh (vi 7) (z8 (ql ?_));obtain rfl:=Option.some.inj a
 refine q8 (D:=[]) (J:=[box d [p] 77,box L [vs0] 45]) (rs:=[.cell 2 45,.tmp 3]) (vs:=[(.agg #[vs0]),(vi 7)]) (((n.trans c).trans k).trans l) rfl rfl ⟨⟨_,rfl,fun w O=>z0e (i:=1) O rfl rfl zlc zeh rfl rfl⟩,rfl,trivial⟩ ?_
 exact⟨rfl,⟨(.agg #[vs0]),rfl,(⟨_,(kz (T:=(tSl true (qf false))) rfl z3y),rfl⟩:VRep (ut true false) _ _ (⟨[]⟩:Sd))⟩⟩;refine qa (zi (ko rfl q2c fun f=>?_));refine qw (ko rfl q8c fun h=>?_)
 refine qw (zk (z0w (fs:=[]) (cs:=[(.pointer (some ⟨f,0,none⟩)),G,(.pointer (some ⟨d,0,none⟩)),(.pointer (some ⟨h,0,none⟩))]) rfl rfl) (jr (i:=0) (vs:=[(.func (.func 40) #[] #[(.pointer (some ⟨f,0,none⟩)),G,(.pointer (some ⟨d,0,none⟩)),(.pointer (some ⟨h,0,none⟩))])]) q7z rfl rfl rfl rfl rfl rfl (qc rfl jq) ?_))
 refine qw (zh vs0 (z8 ?_));obtain⟨s,b,a⟩:=zq a
 refine qm (γ:=(List Int)×Value×Frag) (rs [9,11,30,41]) (fun g=>[(9,g.2.1)]) (fun g=>[box L [vs0] 45,box f [vs0] 45,box h [(.func (.func 40) #[] #[(.pointer (some ⟨f,0,none⟩)),G,(.pointer (some ⟨d,0,none⟩)),(.pointer (some ⟨h,0,none⟩))])] 80,box d [p] 77,g.2.2]++A) (fun g R=>s=g.1∧ORep (qb .i64) R g.2.2 g.2.1 g.1∧True) ?_ ?_
 refine zi (je rfl xe ui rfl (h2.mono ((c.trans k).trans l)) fun aX ao=>?_);refine qh rfl z3h rfl ao fun aY ap=>?_;refine zk (qo rfl underlying28 rfl (ja ap)) (zf (vi 0) (z8 (zx (z3e ?_))))
 refine jb (γ:=Nat×(List Int)×Int×Value×Frag) (rs [9,11,33,41]) (fun g=>[(9,g.2.2.2.1),(33,(vi g.2.2.1))]) (fun g=>[box L [vs0] 45,box f [vs0] 45,box h [(.func (.func 40) #[] #[(.pointer (some ⟨f,0,none⟩)),G,(.pointer (some ⟨d,0,none⟩)),(.pointer (some ⟨h,0,none⟩))])] 80,box d [p] 77,g.2.2.2.2]++A) (fun g R=>z3n N m g.1 g.2.1 g.2.2.1=some s∧ORep (qb .i64) R g.2.2.2.2 g.2.2.2.1 g.2.1∧True) (fun g=>g.1) (N,[],0,vs0,emp) ⟨[],(pk 4 rfl (pk 2 rfl (pk 1 rfl (pk 1 rfl (pk 0 rfl (List.Perm.refl _))))))⟩ ⟨b,(z09 (T:=(qb .i64))),trivial⟩ ?_
 clear b;rintro⟨z,C,e,P,aq⟩ aZ a0 Q ⟨b,S,_⟩;rcases z with _|z;exact qp b;replace b:z3n N m (z+1) C e=some s:=b;rw [z3n] at b;refine zi (zk (j3 rfl rfl) (z8 (zw (zu rfl b (fun b=>?_) (fun b=>?_)))))
 refine qa (zw (zx (zi (zf (vi e) (zh (vi e) (z8 (zn (zf P (zf (vi e) (ol (T:=(qb .i64)) (X:=([e]:List Int)) (ps:=[(0,(vi e))]) (css:=[[(vi e)]]) rfl underlying32 zo3 rfl rfl (kv ⟨rfl,trivial⟩) rfl rfl (by decide) fun ar a1 H au=>?_))))))))))
 refine y5 (i:=0) rfl au fun av E aw=>?_;have ax:VRep (tSl true (qb .i64)) av ar ([e]:List Int):=(z3a aw H);obtain⟨U,b⟩:=zb b
 refine dh (i:=4) (X:=C) (Y:=([e]:List Int)) rfl underlying32 zo3 rfl rfl rfl (S.mono E) (ja (Sub.v (B:=(tSl false (qb .i64))) (uf Sub.refl (fun _=>rfl)) ax)) U.1 U.2 fun V ay az=>?_;refine zh V (z8 (zn ?_));obtain⟨aA,b⟩:=zb b;refine zk (jh rfl rfl aA) (zf (vi (e+1)) (z8 ?_))
 exact⟨dkt,E,jl,(z,(C++([e]:List Int)),e+1,V,ay),Nat.lt_succ_self _,⟨rfl,rfl,trivial⟩,prm,b,az,trivial⟩;refine jk ?_;exact⟨dkt,Q,jl,(C,P,aq),⟨rfl,trivial⟩,prm,(Option.some.inj b).symm,S,trivial⟩;rintro⟨s,t,a2⟩ a3 a4 u ⟨rfl,aB,_⟩
 refine zi (zk (qj (i:=2) q6w rfl rfl rfl) (zf t (zf t (y5 (i:=4) rfl aB fun W x aC=>?_))));have Z:VRep (tSl false (qb .i64)) W t s:=(z5t aC);refine zzh ?_;obtain⟨aD,aE,a⟩:=zq a
 refine zey (Oc:=[box f [vs0] 45,emp,box d [p] 77,box h [(.func (.func 40) #[] #[(.pointer (some ⟨f,0,none⟩)),G,(.pointer (some ⟨d,0,none⟩)),(.pointer (some ⟨h,0,none⟩))])] 80]) (Or:=[box L [vs0] 45]++A) (cs:=[(.pointer (some ⟨f,0,none⟩)),G,(.pointer (some ⟨d,0,none⟩)),(.pointer (some ⟨h,0,none⟩))]) (vs:=[t,t]) rfl q72 rfl rfl ((pk 2 rfl (pk 0 rfl (pk 2 rfl (pk 1 rfl (pk 0 rfl (List.Perm.refl _))))))) (zgp Z Z (zfe (List.nil_prefix) (q3n (K:=rSprobes_Node) (R:=W))) (h2.mono ((((c.trans k).trans l).trans u).trans x)) ((z1h.1 y).mono ((l.trans u).trans x)) aE) fun a5 a6 aK aa aF=>?_
 obtain⟨aG,a7,rfl,rfl,⟨a8,aL,aH⟩⟩:=aF;refine qw (zk (qi z0t rfl) (zk (qj (i:=0) zy5 rfl rfl rfl) (zsu zhv (i:=1) rfl aH fun aI ab ac=>?_)));have ad:VRep (tSl false (qf false)) aI aG aD.2:=(z5t ac);obtain⟨ae,af,a⟩:=zq a
 refine jd rfl q8t rfl (z9e ad af) fun j aM I o=>?_;refine zk (qi z0t rfl) (jr (i:=0) (vs:=[j]) q5c rfl rfl (z0a o) rfl rfl rfl (qc (z6p o) jq) ?_)
 refine qw (zk (w9 (i:=0) zlc zeh rfl rfl rfl rfl) (jr (i:=3) (vs:=[j]) zeh rfl rfl rfl rfl rfl rfl (qc (z6p o) jq) ?_));refine zh (vi 0) (z8 (ql ?_));obtain rfl:=Option.some.inj a
 refine q8 (D:=[]) (J:=[box f [j] 45,box d [p] 77,box h [(.func (.func 40) #[] #[(.pointer (some ⟨f,0,none⟩)),G,(.pointer (some ⟨d,0,none⟩)),(.pointer (some ⟨h,0,none⟩))])] 80,box L [j] 45]) (rs:=[.cell 2 45,.tmp 3]) (vs:=[(.agg #[j]),(vi 0)]) ((((((((n.trans c).trans k).trans l).trans u).trans x).trans aa).trans ab).trans I) rfl rfl ⟨⟨_,rfl,fun w O=>z0e (i:=3) O rfl rfl zlc zeh rfl rfl⟩,rfl,trivial⟩ ?_
 exact⟨rfl,⟨(.agg #[j]),rfl,(⟨_,(kz (T:=(tSl true (qf false))) rfl o),rfl⟩:VRep (ut true false) _ _ (⟨ae⟩:Sd))⟩⟩
theorem q87:Enters prog 15:=enters_of func15 rfl (by kernel_rfl)
theorem q0j: ∀ w,∃ z,(zeroValue 55).run prog w= .ok z w∧z.cells=([.int .i64 0,.int .i64 0,.slice none 0 0]:List Value).toArray:=fun w=>⟨(.agg #[(vi 0),(vi 0),vs0]),by kernel_rfl,rfl⟩
theorem zuw: ∀ w,(sizeOf 55).run prog w= .ok 3 w:=fun w=>by kernel_rfl
theorem q6l: ∀ w,(isAgg 55).run prog w= .ok true w:=fun w=>by kernel_rfl
theorem z6o{N:Nat}{R:RH}{input:Int}{next:(List Int)}{a:Value}(b:VRep (tSl false (qb .i64)) R a next){r:Sa}(c:z2m N input next=some r):CallP prog 36 #[(vi input),a] R (fun v R'=>VRep (qf false) R' v r):=by
 refine qd (args:=[(vi input),a]) func36 rfl rfl fun A=>?_;rw [z2m] at c;refine zi (ko rfl q0j fun d=>?_)
 refine qw (zf (vi input) (zf a (zk (z7g [(0,(vi input)),(1,(vi (-1))),(2,(.agg #[a]))] (ps:=[(0,(vi input)),(1,(vi (-1))),(2,a)]) (v:=(.agg #[(vi input),(vi (-1)),a])) rfl (by simp only [List.map_cons,List.map_nil,z0a b];rfl) (fun w=>by kernel_rfl)) (jr (i:=0) (vs:=[(vi input),(vi (-1)),a]) zuw rfl rfl rfl rfl rfl rfl (qc rfl (qc rfl (qc (z6p b) jq))) ?_))))
 refine z8 (ql ?_);obtain rfl:=Option.some.inj c;refine q8 (D:=[]) (J:=[box d [(vi input),(vi (-1)),a] 55]) (rs:=[.cell 4 55]) (vs:=[(.agg #[(vi input),(vi (-1)),a])]) (RH.le.refl _) rfl rfl ⟨⟨_,rfl,fun w e=>z0e (i:=0) e rfl rfl q6l zuw rfl rfl⟩,trivial⟩ ?_
 exact⟨rfl,(⟨_,⟨_,_,rfl,rfl,⟨_,_,rfl,rfl,(kz rfl b)⟩⟩,rfl⟩:VRep (qf false) _ _ (⟨input,(-1),next⟩:Sa))⟩
theorem q6b:Enters prog 36:=enters_of func36 rfl (by kernel_rfl)
theorem z3z{N:Nat}{R:RH}{s:Int}{r:Sa}(b:z1d N s=some r):CallP prog 37 #[(vi s)] R (fun v R'=>VRep (qf true) R' v r):=by
 refine qd (args:=[(vi s)]) func37 rfl rfl fun A=>?_;rw [z1d] at b;refine zi (ko rfl q0j fun h=>?_)
 refine qw (zf (vi s) (ol (T:=(qb .i64)) (X:=([(-1),(-1)]:List Int)) (ps:=[(0,(vi (-1))),(1,(vi (-1)))]) (css:=[[(vi (-1))],[(vi (-1))]]) rfl underlying32 zo3 rfl rfl (kv ⟨rfl,rfl,trivial⟩) rfl rfl (by decide) fun a l c d=>?_))
 refine zk (z7g [(0,(vi (-1))),(1,(vi s)),(2,(.agg #[a]))] (ps:=[(0,(vi (-1))),(1,(vi s)),(2,a)]) (v:=(.agg #[(vi (-1)),(vi s),a])) rfl (by simp only [List.map_cons,List.map_nil,z0k d];rfl) (fun w=>by kernel_rfl)) (jr (i:=1) (vs:=[(vi (-1)),(vi s),a]) zuw rfl rfl rfl rfl rfl rfl (qc rfl (qc rfl (qc (z2s d) jq))) ?_)
 refine z8 (ow (i:=0) rfl d fun j e f=>?_);have g:VRep (tSl true (qb .i64)) j a ([(-1),(-1)]:List Int):=(z3a f c);refine ql ?_;obtain rfl:=Option.some.inj b
 refine q8 (D:=[]) (J:=[box h [(vi (-1)),(vi s),a] 55]) (rs:=[.cell 2 55]) (vs:=[(.agg #[(vi (-1)),(vi s),a])]) e rfl rfl ⟨⟨_,rfl,fun w k=>z0e (i:=0) k rfl rfl q6l zuw rfl rfl⟩,trivial⟩ ?_
 exact⟨rfl,(⟨_,⟨_,_,rfl,rfl,⟨_,_,rfl,rfl,(kz rfl g)⟩⟩,rfl⟩:VRep (qf true) _ _ (⟨(-1),s,([(-1),(-1)]:List Int)⟩:Sa))⟩
theorem q3m:Enters prog 37:=enters_of func37 rfl (by kernel_rfl)
theorem q8p{a:Bool}:ZeroOk prog 55 (qf a) (⟨(0:Int),(0:Int),([]:List Int)⟩:Sa) 40:=by
 obtain⟨i,zv,hi,c,d,f,g⟩:=z2u (P:=prog) (e:=55) (zv:=(.agg #[(vi 0),(vi 0),vs0])) (k:=3) (b:=40) (by kernel_rfl);exact⟨i,zv,hi,c,d,f,fun R=>by subst g;exact⟨_,_,rfl,rfl,⟨_,_,rfl,rfl,(kz rfl z3y)⟩⟩⟩
theorem zc3{a b:Bool}:TyOk prog 43 (tSl a (qf b)):=by
 obtain⟨i,hi,c⟩: ∃ i,prog.info? 43=some i∧i.size=1:=u6 (by kernel_rfl);exact z0u underlying43 hi rfl c
theorem ze0:FieldOk prog 55 2 2:=by
 obtain⟨i,hi,a⟩: ∃ i,prog.info? 32=some i∧i.size=1:=u6 (by kernel_rfl);exact dn underlying55 rfl rfl hi (by rw [a];rfl)
theorem z5x{N:Nat}{R:RH}{t:Sd}{I:Value}(ad:VRep (ut false false) R I t){outputs:(List Int)}{k:Value}(o:VRep (tSl false (qb .i64)) R k outputs){r:Int×Int}(f:z3m N t outputs=some r):CallP prog 21 #[I,k] R (fun v R'=>v= .tuple #[(vi r.1),(vi r.2)]):=by
 refine qd (args:=[I,k]) func21 rfl rfl fun A=>?_;rw [z3m] at f;refine zi (ky (T:=(ut false false)) rfl rfl rfl ad fun v1 R3 x h5 h2=>?_);refine zh (vi 0) (zh (vi 0) (z8 (zw (zi (je rfl z0t ug rfl h2 fun v6 h7=>?_)))));refine qh rfl zc3 rfl h7 fun v8 h9=>?_
 refine zk (qo rfl underlying43 rfl (ja h9)) (zk (bz rfl rfl) (z8 (zu rfl f (fun f=>?_) (fun f=>?_))));refine zi (zh (vi 0) (zh (vi 4) (z8 (ql ?_))));obtain rfl:=Option.some.inj f;refine q8 (D:=[]) (J:=[]) (rs:=[.tmp 4,.tmp 5]) (vs:=[(vi 0),(vi 4)]) x rfl rfl ⟨rfl,rfl,trivial⟩ ?_
 exact⟨rfl,rfl⟩;refine qa (zi (zh (vi 0) (z8 ?_)));obtain⟨K,d,f⟩:=zq f;refine qm (γ:=Int) (rs [4,7,8,10,15,63]) (fun g=>[(6,(vi g))]) (fun g=>[]++A) (fun g R=>K=Ex.go g∧True) ?_ ?_
 refine zi (zf k (zk (qo rfl underlying32 rfl (ja (o.mono x))) (zf (vi 0) (z8 (zx (jb (γ:=Nat×Int×Int) (rs [4,7,8,10,17,63]) (fun g=>[(6,(vi g.2.1)),(17,(vi g.2.2))]) (fun g=>[]++A) (fun g R=>z1f N t outputs g.1 g.2.1 g.2.2=some K∧True) (fun g=>g.1) (N,0,0) prm ⟨d,trivial⟩ ?_))))))
 clear d;rintro⟨E,b,a⟩ aw aY u ⟨d,_⟩;rcases E with _|E;exact qp d;replace d:z1f N t outputs (E+1) b a=some K:=d;rw [z1f] at d;refine zi (zk (j3 rfl rfl) (z8 (zw (zu rfl d (fun d=>?_) (fun d=>?_)))));refine qa (zw (zx (zi ?_)));obtain⟨M,d⟩:=zb d
 refine kg (i:=a.toNat) rfl z04 rfl (ja (o.mono (x.trans u))) (zg rfl M.1) (zy M) fun aZ ae=>?_;refine qh rfl ty3 rfl ae fun a0 af=>?_;obtain rfl:=jg.1 af;refine zh (vi (ix outputs a)) (qw (je rfl z0t ug rfl (h2.mono u) fun a1 ag=>?_));refine qh rfl zc3 rfl ag fun a2 ah=>?_
 refine zf (vi b) ?_;obtain⟨O,d⟩:=zb d;refine kg (i:=b.toNat) rfl zlf rfl (ja ah) (zg rfl O.1) (zy O) fun a3 ai=>?_;refine qh rfl q3o rfl ai fun a4 aj=>?_;refine ko rfl q0j fun w=>?_;obtain⟨q,rfl,y⟩:=av aj
 refine jr (i:=0) (vs:=[(vi ((ix t.fA b).fB)),(vi ((ix t.fA b).fE)),q]) zuw rfl rfl rfl rfl rfl rfl (qc rfl (qc rfl (qc (z6p y) jq))) ?_
 refine z8 (zw (zi (zk (qi zkf rfl) (zk (qj (i:=0) ag3 rfl rfl rfl) (zk (bz rfl rfl) (z8 (zu rfl d (fun d=>?_) (fun d=>?_))))))));refine zi (zh (vi 0) (zh (vi 16) (z8 (ql ?_))));replace f:=z1i d f;obtain rfl:=Option.some.inj f
 refine q8 (D:=[]) (J:=[box w [(vi ((ix t.fA b).fB)),(vi ((ix t.fA b).fE)),q] 55]) (rs:=[.tmp 4,.tmp 5]) (vs:=[(vi 0),(vi 16)]) (x.trans u) rfl rfl ⟨rfl,rfl,trivial⟩ ?_;exact⟨rfl,rfl⟩;refine qa (zw (zw ?_));obtain⟨P,Q,d⟩:=zy6 d
 refine mf 28 [] [phX (vi (ix outputs a)),phX (.bool (decide ((ix outputs a)<0))),phX (.bool (decide ((ix outputs a)<0))),phG (true&&((decide ((ix outputs a)<0))==false)) (phX (vi (ix outputs a))),phG (true&&((decide ((ix outputs a)<0))==false)) (phX (.pointer (some ⟨w,2,none⟩))),phG (true&&((decide ((ix outputs a)<0))==false)) (phX q),phG (true&&((decide ((ix outputs a)<0))==false)) (phX (vi (↑((ix t.fA b).fD).length:Int))),phG (true&&((decide ((ix outputs a)<0))==false)) (phX (.bool (decide ((↑((ix t.fA b).fD).length:Int)≤(ix outputs a))))),phX (.bool ((decide ((ix outputs a)<0))||(decide ((↑((ix t.fA b).fD).length:Int)≤(ix outputs a))))),phX (.bool ((decide ((ix outputs a)<0))||(decide ((↑((ix t.fA b).fD).length:Int)≤(ix outputs a))))),phG (true&&(((decide ((ix outputs a)<0))||(decide ((↑((ix t.fA b).fD).length:Int)≤(ix outputs a))))==false)) (phX (.pointer (some ⟨w,2,none⟩))),phG (true&&(((decide ((ix outputs a)<0))||(decide ((↑((ix t.fA b).fD).length:Int)≤(ix outputs a))))==false)) (phX q),phG (true&&(((decide ((ix outputs a)<0))||(decide ((↑((ix t.fA b).fD).length:Int)≤(ix outputs a))))==false)) (phX (vi (ix outputs a))),phG (true&&(((decide ((ix outputs a)<0))||(decide ((↑((ix t.fA b).fD).length:Int)≤(ix outputs a))))==false)) (phP (qb .i64) (ix ((ix t.fA b).fD) (ix outputs a))),phG (true&&(((decide ((ix outputs a)<0))||(decide ((↑((ix t.fA b).fD).length:Int)≤(ix outputs a))))==false)) (phX (vi (ix ((ix t.fA b).fD) (ix outputs a)))),phG (true&&(((decide ((ix outputs a)<0))||(decide ((↑((ix t.fA b).fD).length:Int)≤(ix outputs a))))==false)) (phX (.bool (decide ((ix ((ix t.fA b).fD) (ix outputs a))<0)))),phX (.bool (((decide ((ix outputs a)<0))||(decide ((↑((ix t.fA b).fD).length:Int)≤(ix outputs a))))||(decide ((ix ((ix t.fA b).fD) (ix outputs a))<0)))),phX (.bool (((decide ((ix outputs a)<0))||(decide ((↑((ix t.fA b).fD).length:Int)≤(ix outputs a))))||(decide ((ix ((ix t.fA b).fD) (ix outputs a))<0)))),phG (true&&((((decide ((ix outputs a)<0))||(decide ((↑((ix t.fA b).fD).length:Int)≤(ix outputs a))))||(decide ((ix ((ix t.fA b).fD) (ix outputs a))<0)))==false)) (phX (.pointer (some ⟨w,2,none⟩))),phG (true&&((((decide ((ix outputs a)<0))||(decide ((↑((ix t.fA b).fD).length:Int)≤(ix outputs a))))||(decide ((ix ((ix t.fA b).fD) (ix outputs a))<0)))==false)) (phX q),phG (true&&((((decide ((ix outputs a)<0))||(decide ((↑((ix t.fA b).fD).length:Int)≤(ix outputs a))))||(decide ((ix ((ix t.fA b).fD) (ix outputs a))<0)))==false)) (phX (vi (ix outputs a))),phG (true&&((((decide ((ix outputs a)<0))||(decide ((↑((ix t.fA b).fD).length:Int)≤(ix outputs a))))||(decide ((ix ((ix t.fA b).fD) (ix outputs a))<0)))==false)) (phP (qb .i64) (ix ((ix t.fA b).fD) (ix outputs a))),phG (true&&((((decide ((ix outputs a)<0))||(decide ((↑((ix t.fA b).fD).length:Int)≤(ix outputs a))))||(decide ((ix ((ix t.fA b).fD) (ix outputs a))<0)))==false)) (phX (vi (ix ((ix t.fA b).fD) (ix outputs a)))),phG (true&&((((decide ((ix outputs a)<0))||(decide ((↑((ix t.fA b).fD).length:Int)≤(ix outputs a))))||(decide ((ix ((ix t.fA b).fD) (ix outputs a))<0)))==false)) (phP (tSl false (qf false)) t.fA),phG (true&&((((decide ((ix outputs a)<0))||(decide ((↑((ix t.fA b).fD).length:Int)≤(ix outputs a))))||(decide ((ix ((ix t.fA b).fD) (ix outputs a))<0)))==false)) (phR (tSl false (qf false)) t.fA),phG (true&&((((decide ((ix outputs a)<0))||(decide ((↑((ix t.fA b).fD).length:Int)≤(ix outputs a))))||(decide ((ix ((ix t.fA b).fD) (ix outputs a))<0)))==false)) (phX (vi (↑t.fA.length:Int))),phG (true&&((((decide ((ix outputs a)<0))||(decide ((↑((ix t.fA b).fD).length:Int)≤(ix outputs a))))||(decide ((ix ((ix t.fA b).fD) (ix outputs a))<0)))==false)) (phX (.bool (decide ((↑t.fA.length:Int)≤(ix ((ix t.fA b).fD) (ix outputs a)))))),phX (.bool ((((decide ((ix outputs a)<0))||(decide ((↑((ix t.fA b).fD).length:Int)≤(ix outputs a))))||(decide ((ix ((ix t.fA b).fD) (ix outputs a))<0)))||(decide ((↑t.fA.length:Int)≤(ix ((ix t.fA b).fD) (ix outputs a))))))] mixed (by kernel_rfl) (bu ⟨zt,zt,zt,(qy zt),(qy zt),(qy zt),(qy zt),(qy zt),zt,zt,(qy zt),(qy zt),(qy zt),(qy uo),(qy zt),(qy zt),zt,zt,(qy zt),(qy zt),(qy zt),(qy uo),(qy zt),(qy uo),(qy gu),(qy zt),(qy zt),zt,trivial⟩) ⟨?_,?_,?_,?_,?_,?_,?_,?_,?_,?_,?_,?_,?_,?_,?_,?_,?_,?_,?_,?_,?_,?_,?_,?_,?_,?_,?_,?_,trivial⟩ fun a5 z=>?_
 intro l a6 c m hd;exact za rfl rfl rfl (zz (ze (m 8 rfl)));rintro l a7 c m ⟨e,_⟩;exact za rfl rfl rfl (zz (j3 (e rfl) rfl));rintro l a8 c m ⟨e,_⟩;exact za rfl rfl rfl (zz (ze (e rfl)));rintro l a9 c m ⟨e,_⟩
 exact zm (Gj:=true) (Bj:=decide ((ix outputs a)<0)) rfl rfl rfl (ku (e rfl)) rfl (fun p j=>zz (ze (m 8 rfl)));rintro l ba c m ⟨e,_⟩;exact zm (Gj:=true) (Bj:=decide ((ix outputs a)<0)) rfl rfl rfl (ku (e rfl)) rfl (fun p j=>zz (qi ze0 (m 9 rfl)));rintro l bb c m ⟨e,n,_⟩
 exact zm (Gj:=true) (Bj:=decide ((ix outputs a)<0)) rfl rfl rfl (ku (n rfl)) rfl (fun p j=>zz (qj (i:=0) znh (show l 33=(.pointer (some ⟨w,2,none⟩)) from(e rfl).1 (zo rfl j)) rfl rfl));rintro l bc c m ⟨e,n,_⟩
 exact zm (Gj:=true) (Bj:=decide ((ix outputs a)<0)) rfl rfl rfl (ku (n rfl)) rfl (fun p j=>zz (qo rfl underlying32 (show l 34=q from(e rfl).1 (zo rfl j)) (ja (y.mono c))));rintro l be c m ⟨e,n,L,_⟩
 exact zm (Gj:=true) (Bj:=decide ((ix outputs a)<0)) rfl rfl rfl (ku (L rfl)) rfl (fun p j=>zz (z3f (show l 32=(vi (ix outputs a)) from(e rfl).1 (zo rfl j)) (show l 35=(vi (↑((ix t.fA b).fD).length:Int)) from(n rfl).1 (zo rfl j))));rintro l bf c m ⟨e,n,_⟩
 exact za rfl rfl rfl (zz (au (e rfl) rfl (fun S=>(show l 36=(.bool (decide ((↑((ix t.fA b).fD).length:Int)≤(ix outputs a)))) from(n rfl).1 (zo rfl S)))));rintro l bg c m ⟨e,n,_⟩;exact za rfl rfl rfl (zz (ze (e rfl)));rintro l ax c m ⟨e,_⟩
 exact zm (Gj:=true) (Bj:=(decide ((ix outputs a)<0))||(decide ((↑((ix t.fA b).fD).length:Int)≤(ix outputs a)))) rfl rfl rfl (ku (e rfl)) rfl (fun p j=>zz (qi ze0 (m 9 rfl)));rintro l ay c m ⟨e,n,_⟩
 exact zm (Gj:=true) (Bj:=(decide ((ix outputs a)<0))||(decide ((↑((ix t.fA b).fD).length:Int)≤(ix outputs a)))) rfl rfl rfl (ku (n rfl)) rfl (fun p j=>zz (qj (i:=0) znh (show l 39=(.pointer (some ⟨w,2,none⟩)) from(e rfl).1 (zo rfl j)) rfl rfl));rintro l az c m ⟨e,_⟩
 exact zm (Gj:=true) (Bj:=(decide ((ix outputs a)<0))||(decide ((↑((ix t.fA b).fD).length:Int)≤(ix outputs a)))) rfl rfl rfl (ku (e rfl)) rfl (fun p j=>zz (ze (m 8 rfl)));rintro l aA c m ⟨e,n,L,_⟩
 exact zm (Gj:=true) (Bj:=(decide ((ix outputs a)<0))||(decide ((↑((ix t.fA b).fD).length:Int)≤(ix outputs a)))) rfl rfl rfl (ku (L rfl)) rfl (fun p j=>wm (i:=(ix outputs a).toNat) z04 (show l 40=q from(e rfl).1 (zo rfl j)) (ja (y.mono c)) (zg (show l 41=(vi (ix outputs a)) from(n rfl).1 (zo rfl j)) (P (zo p j)).1) (zy (P (zo p j))))
 rintro l aB c m ⟨e,n,_⟩;exact zm (Gj:=true) (Bj:=(decide ((ix outputs a)<0))||(decide ((↑((ix t.fA b).fD).length:Int)≤(ix outputs a)))) rfl rfl rfl (ku (n rfl)) rfl (fun p j=>gp (jo ty3 rfl ((e rfl).1 (zo rfl j))) (fun _ _ h=>jg.1 h));rintro l aC c m ⟨e,n,_⟩
 exact zm (Gj:=true) (Bj:=(decide ((ix outputs a)<0))||(decide ((↑((ix t.fA b).fD).length:Int)≤(ix outputs a)))) rfl rfl rfl (ku (n rfl)) rfl (fun p j=>zz (j3 (show l 43=(vi (ix ((ix t.fA b).fD) (ix outputs a))) from(e rfl).1 (zo rfl j)) rfl));rintro l aD c m ⟨e,n,_⟩
 exact za rfl rfl rfl (zz (au (e rfl) rfl (fun S=>(show l 44=(.bool (decide ((ix ((ix t.fA b).fD) (ix outputs a))<0))) from(n rfl).1 (zo rfl S)))));rintro l aE c m ⟨e,n,_⟩;exact za rfl rfl rfl (zz (ze (e rfl)));rintro l aF c m ⟨e,_⟩
 exact zm (Gj:=true) (Bj:=((decide ((ix outputs a)<0))||(decide ((↑((ix t.fA b).fD).length:Int)≤(ix outputs a))))||(decide ((ix ((ix t.fA b).fD) (ix outputs a))<0))) rfl rfl rfl (ku (e rfl)) rfl (fun p j=>zz (qi ze0 (m 9 rfl)));rintro l aG c m ⟨e,n,_⟩
 exact zm (Gj:=true) (Bj:=((decide ((ix outputs a)<0))||(decide ((↑((ix t.fA b).fD).length:Int)≤(ix outputs a))))||(decide ((ix ((ix t.fA b).fD) (ix outputs a))<0))) rfl rfl rfl (ku (n rfl)) rfl (fun p j=>zz (qj (i:=0) znh (show l 47=(.pointer (some ⟨w,2,none⟩)) from(e rfl).1 (zo rfl j)) rfl rfl))
 rintro l aH c m ⟨e,_⟩;exact zm (Gj:=true) (Bj:=((decide ((ix outputs a)<0))||(decide ((↑((ix t.fA b).fD).length:Int)≤(ix outputs a))))||(decide ((ix ((ix t.fA b).fD) (ix outputs a))<0))) rfl rfl rfl (ku (e rfl)) rfl (fun p j=>zz (ze (m 8 rfl)));rintro l aI c m ⟨e,n,L,_⟩
 exact zm (Gj:=true) (Bj:=((decide ((ix outputs a)<0))||(decide ((↑((ix t.fA b).fD).length:Int)≤(ix outputs a))))||(decide ((ix ((ix t.fA b).fD) (ix outputs a))<0))) rfl rfl rfl (ku (L rfl)) rfl (fun p j=>wm (i:=(ix outputs a).toNat) z04 (show l 48=q from(e rfl).1 (zo rfl j)) (ja (y.mono c)) (zg (show l 49=(vi (ix outputs a)) from(n rfl).1 (zo rfl j)) (Q (zo p j)).1) (zy (Q (zo p j))))
 rintro l aJ c m ⟨e,n,_⟩;exact zm (Gj:=true) (Bj:=((decide ((ix outputs a)<0))||(decide ((↑((ix t.fA b).fD).length:Int)≤(ix outputs a))))||(decide ((ix ((ix t.fA b).fD) (ix outputs a))<0))) rfl rfl rfl (ku (n rfl)) rfl (fun p j=>gp (jo ty3 rfl ((e rfl).1 (zo rfl j))) (fun _ _ h=>jg.1 h))
 rintro l aK c m ⟨e,_⟩;exact zm (Gj:=true) (Bj:=((decide ((ix outputs a)<0))||(decide ((↑((ix t.fA b).fD).length:Int)≤(ix outputs a))))||(decide ((ix ((ix t.fA b).fD) (ix outputs a))<0))) rfl rfl rfl (ku (e rfl)) rfl (fun p j=>gz z0t ug (m 2 rfl) ((h2.mono u).mono c));rintro l aL c m ⟨e,n,_⟩
 exact zm (Gj:=true) (Bj:=((decide ((ix outputs a)<0))||(decide ((↑((ix t.fA b).fD).length:Int)≤(ix outputs a))))||(decide ((ix ((ix t.fA b).fD) (ix outputs a))<0))) rfl rfl rfl (ku (n rfl)) rfl (fun p j=>jo zc3 rfl ((e rfl).1 (zo rfl j)));rintro l aM c m ⟨e,n,_⟩
 exact zm (Gj:=true) (Bj:=((decide ((ix outputs a)<0))||(decide ((↑((ix t.fA b).fD).length:Int)≤(ix outputs a))))||(decide ((ix ((ix t.fA b).fD) (ix outputs a))<0))) rfl rfl rfl (ku (n rfl)) rfl (fun p j=>zz (qo rfl underlying43 rfl (ja ((e rfl).1 (zo rfl j)))));rintro l aN c m ⟨e,n,L,_⟩
 exact zm (Gj:=true) (Bj:=((decide ((ix outputs a)<0))||(decide ((↑((ix t.fA b).fD).length:Int)≤(ix outputs a))))||(decide ((ix ((ix t.fA b).fD) (ix outputs a))<0))) rfl rfl rfl (ku (L rfl)) rfl (fun p j=>zz (z3f (show l 51=(vi (ix ((ix t.fA b).fD) (ix outputs a))) from(e rfl).1 (zo rfl j)) (show l 54=(vi (↑t.fA.length:Int)) from(n rfl).1 (zo rfl j))))
 rintro l aO c m ⟨e,n,_⟩;exact za rfl rfl rfl (zz (au (e rfl) rfl (fun S=>(show l 55=(.bool (decide ((↑t.fA.length:Int)≤(ix ((ix t.fA b).fD) (ix outputs a))))) from(n rfl).1 (zo rfl S)))))
 intro bh ak bi al bj am bk bl bm bn bo bp bq br bs bt bv an bw ao bx bA bB bC bD bE bF bG bH bI bJ bK bL ap bM aq bN bO bP bQ bR bS bT bU bV bW bX bY bZ b0 b1 b2 b3 b4 b5 ar;obtain rfl:=Eq.symm ak;obtain rfl:=Eq.symm al;obtain rfl:=Eq.symm am;obtain rfl:=Eq.symm an;obtain rfl:=Eq.symm ao;obtain rfl:=Eq.symm ap
 obtain rfl:=Eq.symm aq;obtain rfl:=Eq.symm ar;refine z8 (zu rfl d (fun d=>?_) (fun d=>?_));refine zi (zh (vi 0) (zh (vi 7) (z8 (ql ?_))));replace f:=z1i d f;obtain rfl:=Option.some.inj f
 refine q8 (D:=[]) (J:=[box w [(vi ((ix t.fA b).fB)),(vi ((ix t.fA b).fE)),q] 55]) (rs:=[.tmp 4,.tmp 5]) (vs:=[(vi 0),(vi 7)]) ((x.trans u).trans z) rfl rfl ⟨rfl,rfl,trivial⟩ ?_;exact⟨rfl,rfl⟩
 refine qa (zn (zk (qi ze0 rfl) (zk (qj (i:=0) znh rfl rfl rfl) (zf (vi (ix outputs a)) ?_))));obtain⟨F,d⟩:=zb d;refine kg (i:=(ix outputs a).toNat) rfl z04 rfl (ja (y.mono z)) (zg rfl F.1) (zy F) fun aP U=>?_;refine qh rfl ty3 rfl U fun aQ V=>?_;obtain rfl:=jg.1 V
 refine zh (vi (ix ((ix t.fA b).fD) (ix outputs a))) (z8 (zn ?_));obtain⟨W,d⟩:=zb d;refine zk (jh rfl rfl W) (zf (vi (a+1)) (z8 ?_))
 exact⟨dkt,z,jl,(E,(ix ((ix t.fA b).fD) (ix outputs a)),a+1),Nat.lt_succ_self _,⟨rfl,rfl,trivial⟩,⟨[box w [(vi ((ix t.fA b).fB)),(vi ((ix t.fA b).fE)),q] 55],(List.Perm.refl _)⟩,d,trivial⟩;refine jk ?_;exact⟨dkt,u,jl,b,⟨rfl,trivial⟩,prm,(Option.some.inj d).symm,trivial⟩
 rintro s aR b6 B ⟨rfl,_⟩;replace f:=z2x f;refine zw (zi (je rfl z0t ug rfl (h2.mono B) fun aS X=>?_));refine qh rfl zc3 rfl X fun aT Y=>?_;refine zf (vi s) ?_;obtain⟨G,f⟩:=zb f;refine kg (i:=s.toNat) rfl zlf rfl (ja Y) (zg rfl G.1) (zy G) fun aU Z=>?_
 refine qh rfl q3o rfl Z fun aV aa=>?_;refine ko rfl q0j fun H=>?_;obtain⟨C,rfl,ab⟩:=av aa;refine jr (i:=0) (vs:=[(vi ((ix t.fA s).fB)),(vi ((ix t.fA s).fE)),C]) zuw rfl rfl rfl rfl rfl rfl (qc rfl (qc rfl (qc (z6p ab) jq))) ?_
 refine qw (zk (qi zkf rfl) (zk (qj (i:=0) ag3 rfl rfl rfl) (zk (bz rfl rfl) (z8 (zu rfl f (fun f=>?_) (fun f=>?_))))));refine zi (zk (qi zng rfl) (zk (qj (i:=0) ag3 rfl rfl rfl) (zh (vi ((ix t.fA s).fE)) (zh (vi 0) (z8 (ql ?_))))));obtain rfl:=Option.some.inj f
 refine q8 (D:=[]) (J:=[box H [(vi ((ix t.fA s).fB)),(vi ((ix t.fA s).fE)),C] 55]) (rs:=[.tmp 4,.tmp 5]) (vs:=[(vi ((ix t.fA s).fE)),(vi 0)]) (x.trans B) rfl rfl ⟨rfl,rfl,trivial⟩ ?_;exact⟨rfl,rfl⟩;refine qa (zi (zh (vi 0) (zh (vi 16) (z8 (ql ?_)))))
 obtain rfl:=Option.some.inj f;refine q8 (D:=[]) (J:=[box H [(vi ((ix t.fA s).fB)),(vi ((ix t.fA s).fE)),C] 55]) (rs:=[.tmp 4,.tmp 5]) (vs:=[(vi 0),(vi 16)]) (x.trans B) rfl rfl ⟨rfl,rfl,trivial⟩ ?_;exact⟨rfl,rfl⟩
theorem q4n:Enters prog 21:=enters_of func21 rfl (by kernel_rfl)
theorem zci{N:Nat}{R:RH}{a:Sd}{E:Value}(aa:VRep (ut false false) R E a){b:Sd}{F:Value}(ab:VRep (ut false false) R F b){r:Bool}(p:z5d N a b=some r):CallP prog 17 #[E,F] R (fun v R'=>v=(.bool r)):=by
 refine qd (args:=[E,F]) func17 rfl rfl fun A=>?_;rw [z5d] at p;refine zi (ky (T:=(ut false false)) rfl rfl rfl aa fun v1 R3 w h5 H=>?_);refine ky (T:=(ut false false)) rfl rfl rfl (ab.mono w) fun v6 R8 s bG Z=>?_
 refine zh (.bool false) (z8 (zw (zi (je rfl z0t ug rfl (H.mono s) fun bH ac=>?_))));refine qh rfl zc3 rfl ac fun bI ad=>?_;refine zk (qo rfl underlying43 rfl (ja ad)) (je rfl z0t ug rfl Z fun bJ ae=>?_);refine qh rfl zc3 rfl ae fun bK af=>?_
 refine zk (qo rfl underlying43 rfl (ja af)) (zk (pg rfl rfl) (z8 (zu rfl p (fun p=>?_) (fun p=>?_))));refine zi (zh (.bool false) (z8 (ql ?_)));obtain rfl:=Option.some.inj p;refine q8 (D:=[]) (J:=[]) (rs:=[.tmp 4]) (vs:=[(.bool false)]) (w.trans s) rfl rfl ⟨rfl,trivial⟩ ?_;exact⟨rfl,rfl⟩;refine qa ?_
 obtain⟨G,m,p⟩:=zq p;refine qm (γ:=Unit) (rs [4,6,13,66]) (fun g=>[]) (fun g=>[]++A) (fun g R=>G=Ex.go g∧True) ?_ ?_
 refine zi (zh (vi 0) (z8 (zx (jb (γ:=Nat×Int) (rs [4,6,13,66]) (fun g=>[(5,(vi g.2))]) (fun g=>[]++A) (fun g R=>lg N a b g.1 g.2=some G∧True) (fun g=>g.1) (N,0) prm ⟨m,trivial⟩ ?_))));clear m;rintro⟨x,c⟩ aw bL o ⟨m,_⟩;rcases x with _|x;exact qp m
 replace m:lg N a b (x+1) c=some G:=m;rw [lg] at m;refine zw (zi (zf (vi c) (je rfl z0t ug rfl (H.mono (s.trans o)) fun bM ag=>?_)));refine qh rfl zc3 rfl ag fun bN ah=>?_
 refine zk (qo rfl underlying43 rfl (ja ah)) (zk (j3 rfl rfl) (z8 (zu rfl m (fun m=>?_) (fun m=>?_))));refine qa (zw (zx (zw ?_)));obtain⟨I,K,L,M,O,P,m⟩:=q4x m
 obtain⟨t,ai,m⟩:=zq m;let q:=(true&&(((decide (((ix a.fA c).fB)≠((ix b.fA c).fB)))||(decide (((ix a.fA c).fE)≠((ix b.fA c).fE))))==false))
 refine mf 46 [] [phP (tSl false (qf false)) a.fA,phR (tSl false (qf false)) a.fA,phX (vi c),phP (qf false) (ix a.fA c),phP (qb .i64) ((ix a.fA c).fB),phX (vi ((ix a.fA c).fB)),phP (tSl false (qf false)) b.fA,phR (tSl false (qf false)) b.fA,phX (vi c),phP (qf false) (ix b.fA c),phP (qb .i64) ((ix b.fA c).fB),phX (vi ((ix b.fA c).fB)),phX (.bool (decide (((ix a.fA c).fB)≠((ix b.fA c).fB)))),phX (.bool (decide (((ix a.fA c).fB)≠((ix b.fA c).fB)))),phG (true&&((decide (((ix a.fA c).fB)≠((ix b.fA c).fB)))==false)) (phP (tSl false (qf false)) a.fA),phG (true&&((decide (((ix a.fA c).fB)≠((ix b.fA c).fB)))==false)) (phR (tSl false (qf false)) a.fA),phG (true&&((decide (((ix a.fA c).fB)≠((ix b.fA c).fB)))==false)) (phX (vi c)),phG (true&&((decide (((ix a.fA c).fB)≠((ix b.fA c).fB)))==false)) (phP (qf false) (ix a.fA c)),phG (true&&((decide (((ix a.fA c).fB)≠((ix b.fA c).fB)))==false)) (phP (qb .i64) ((ix a.fA c).fE)),phG (true&&((decide (((ix a.fA c).fB)≠((ix b.fA c).fB)))==false)) (phX (vi ((ix a.fA c).fE))),phG (true&&((decide (((ix a.fA c).fB)≠((ix b.fA c).fB)))==false)) (phP (tSl false (qf false)) b.fA),phG (true&&((decide (((ix a.fA c).fB)≠((ix b.fA c).fB)))==false)) (phR (tSl false (qf false)) b.fA),phG (true&&((decide (((ix a.fA c).fB)≠((ix b.fA c).fB)))==false)) (phX (vi c)),phG (true&&((decide (((ix a.fA c).fB)≠((ix b.fA c).fB)))==false)) (phP (qf false) (ix b.fA c)),phG (true&&((decide (((ix a.fA c).fB)≠((ix b.fA c).fB)))==false)) (phP (qb .i64) ((ix b.fA c).fE)),phG (true&&((decide (((ix a.fA c).fB)≠((ix b.fA c).fB)))==false)) (phX (vi ((ix b.fA c).fE))),phG (true&&((decide (((ix a.fA c).fB)≠((ix b.fA c).fB)))==false)) (phX (.bool (decide (((ix a.fA c).fE)≠((ix b.fA c).fE))))),phX (.bool ((decide (((ix a.fA c).fB)≠((ix b.fA c).fB)))||(decide (((ix a.fA c).fE)≠((ix b.fA c).fE))))),phX (.bool ((decide (((ix a.fA c).fB)≠((ix b.fA c).fB)))||(decide (((ix a.fA c).fE)≠((ix b.fA c).fE))))),phG q (phP (tSl false (qf false)) a.fA),phG q (phR (tSl false (qf false)) a.fA),phG q (phX (vi c)),phG q (phP (qf false) (ix a.fA c)),phG q (phP (tSl false (qb .i64)) ((ix a.fA c).fD)),phG q (phR (tSl false (qb .i64)) ((ix a.fA c).fD)),phG q (phR (tSl true (tSl false (qb .i64))) ([(ix a.fA c).fD]:List (List Int))),phG q (phP (tSl false (qf false)) b.fA),phG q (phR (tSl false (qf false)) b.fA),phG q (phX (vi c)),phG q (phP (qf false) (ix b.fA c)),phG q (phP (tSl false (qb .i64)) ((ix b.fA c).fD)),phG q (phR (tSl false (qb .i64)) ((ix b.fA c).fD)),phG q (phR (tSl true (tSl false (qb .i64))) ([(ix b.fA c).fD]:List (List Int))),phG q (phX (.bool (t.getD default))),phG q (phX (.bool (!(t.getD default)))),phX (.bool (((decide (((ix a.fA c).fB)≠((ix b.fA c).fB)))||(decide (((ix a.fA c).fE)≠((ix b.fA c).fE))))||(!(t.getD default))))] mixed (by kernel_rfl) (bu ⟨uo,gu,zt,uo,uo,zt,uo,gu,zt,uo,uo,zt,zt,zt,(qy uo),(qy gu),(qy zt),(qy uo),(qy uo),(qy zt),(qy uo),(qy gu),(qy zt),(qy uo),(qy uo),(qy zt),(qy zt),zt,zt,(qy uo),(qy gu),(qy zt),(qy uo),(qy uo),(qy gu),(qy gu),(qy uo),(qy gu),(qy zt),(qy uo),(qy uo),(qy gu),(qy gu),(qy zt),(qy zt),zt,trivial⟩) ⟨?_,?_,?_,?_,?_,?_,?_,?_,?_,?_,?_,?_,?_,?_,?_,?_,?_,?_,?_,?_,?_,?_,?_,?_,?_,?_,?_,?_,?_,?_,?_,?_,?_,?_,?_,?_,?_,?_,?_,?_,?_,?_,?_,?_,?_,?_,trivial⟩ fun bO y=>?_
 intro l bP d j hd;exact za rfl rfl rfl (gz z0t ug (j 2 rfl) ((H.mono (s.trans o)).mono d));rintro l bQ d j ⟨e,_⟩;exact za rfl rfl rfl (jo zc3 rfl (e rfl));intro l bR d j hd;exact za rfl rfl rfl (zz (ze (j 5 rfl)));rintro l bS d j ⟨e,k,_⟩
 exact za rfl rfl rfl (wm (i:=c.toNat) zlf rfl (ja (e rfl)) (zg (k rfl) I.1) (zy I));rintro l bT d j ⟨e,_⟩;exact za rfl rfl rfl (gz zkf za8 rfl (e rfl));rintro l bU d j ⟨e,_⟩;exact za rfl rfl rfl (gp (jo ty3 rfl (e rfl)) (fun _ _ h=>jg.1 h));intro l bV d j hd
 exact za rfl rfl rfl (gz z0t ug (j 3 rfl) ((Z.mono o).mono d));rintro l bW d j ⟨e,_⟩;exact za rfl rfl rfl (jo zc3 rfl (e rfl));intro l bX d j hd;exact za rfl rfl rfl (zz (ze (j 5 rfl)));rintro l bY d j ⟨e,k,_⟩
 exact za rfl rfl rfl (wm (i:=c.toNat) zlf rfl (ja (e rfl)) (zg (k rfl) K.1) (zy K));rintro l ax d j ⟨e,_⟩;exact za rfl rfl rfl (gz zkf za8 rfl (e rfl));rintro l ay d j ⟨e,_⟩;exact za rfl rfl rfl (gp (jo ty3 rfl (e rfl)) (fun _ _ h=>jg.1 h));rintro l az d j ⟨e,k,_⟩
 exact za rfl rfl rfl (zz (pg (e rfl) (k rfl)));rintro l aA d j ⟨e,_⟩;exact za rfl rfl rfl (zz (ze (e rfl)));rintro l aB d j ⟨e,_⟩
 exact zm (Gj:=true) (Bj:=decide (((ix a.fA c).fB)≠((ix b.fA c).fB))) rfl rfl rfl (ku (e rfl)) rfl (fun n f=>gz z0t ug (j 2 rfl) ((H.mono (s.trans o)).mono d));rintro l aC d j ⟨e,k,_⟩
 exact zm (Gj:=true) (Bj:=decide (((ix a.fA c).fB)≠((ix b.fA c).fB))) rfl rfl rfl (ku (k rfl)) rfl (fun n f=>jo zc3 rfl ((e rfl).1 (zo rfl f)));rintro l aD d j ⟨e,_⟩
 exact zm (Gj:=true) (Bj:=decide (((ix a.fA c).fB)≠((ix b.fA c).fB))) rfl rfl rfl (ku (e rfl)) rfl (fun n f=>zz (ze (j 5 rfl)));rintro l aE d j ⟨e,k,u,_⟩
 exact zm (Gj:=true) (Bj:=decide (((ix a.fA c).fB)≠((ix b.fA c).fB))) rfl rfl rfl (ku (u rfl)) rfl (fun n f=>wm (i:=c.toNat) zlf rfl (ja ((e rfl).1 (zo rfl f))) (zg (show l 36=(vi c) from(k rfl).1 (zo rfl f)) (L (zo n f)).1) (zy (L (zo n f))));rintro l aF d j ⟨e,k,_⟩
 exact zm (Gj:=true) (Bj:=decide (((ix a.fA c).fB)≠((ix b.fA c).fB))) rfl rfl rfl (ku (k rfl)) rfl (fun n f=>gz zng zah rfl ((e rfl).1 (zo rfl f)));rintro l aG d j ⟨e,k,_⟩
 exact zm (Gj:=true) (Bj:=decide (((ix a.fA c).fB)≠((ix b.fA c).fB))) rfl rfl rfl (ku (k rfl)) rfl (fun n f=>gp (jo ty3 rfl ((e rfl).1 (zo rfl f))) (fun _ _ h=>jg.1 h));rintro l aH d j ⟨e,_⟩
 exact zm (Gj:=true) (Bj:=decide (((ix a.fA c).fB)≠((ix b.fA c).fB))) rfl rfl rfl (ku (e rfl)) rfl (fun n f=>gz z0t ug (j 3 rfl) ((Z.mono o).mono d));rintro l aI d j ⟨e,k,_⟩
 exact zm (Gj:=true) (Bj:=decide (((ix a.fA c).fB)≠((ix b.fA c).fB))) rfl rfl rfl (ku (k rfl)) rfl (fun n f=>jo zc3 rfl ((e rfl).1 (zo rfl f)));rintro l aJ d j ⟨e,_⟩
 exact zm (Gj:=true) (Bj:=decide (((ix a.fA c).fB)≠((ix b.fA c).fB))) rfl rfl rfl (ku (e rfl)) rfl (fun n f=>zz (ze (j 5 rfl)));rintro l aK d j ⟨e,k,u,_⟩
 exact zm (Gj:=true) (Bj:=decide (((ix a.fA c).fB)≠((ix b.fA c).fB))) rfl rfl rfl (ku (u rfl)) rfl (fun n f=>wm (i:=c.toNat) zlf rfl (ja ((e rfl).1 (zo rfl f))) (zg (show l 42=(vi c) from(k rfl).1 (zo rfl f)) (M (zo n f)).1) (zy (M (zo n f))));rintro l aL d j ⟨e,k,_⟩
 exact zm (Gj:=true) (Bj:=decide (((ix a.fA c).fB)≠((ix b.fA c).fB))) rfl rfl rfl (ku (k rfl)) rfl (fun n f=>gz zng zah rfl ((e rfl).1 (zo rfl f)));rintro l aM d j ⟨e,k,_⟩
 exact zm (Gj:=true) (Bj:=decide (((ix a.fA c).fB)≠((ix b.fA c).fB))) rfl rfl rfl (ku (k rfl)) rfl (fun n f=>gp (jo ty3 rfl ((e rfl).1 (zo rfl f))) (fun _ _ h=>jg.1 h));rintro l aN d j ⟨e,k,u,_⟩
 exact zm (Gj:=true) (Bj:=decide (((ix a.fA c).fB)≠((ix b.fA c).fB))) rfl rfl rfl (ku (u rfl)) rfl (fun n f=>zz (pg (show l 39=(vi ((ix a.fA c).fE)) from(e rfl).1 (zo rfl f)) (show l 45=(vi ((ix b.fA c).fE)) from(k rfl).1 (zo rfl f))));rintro l aO d j ⟨e,k,_⟩
 exact za rfl rfl rfl (zz (au (e rfl) rfl (fun hb=>(show l 46=(.bool (decide (((ix a.fA c).fE)≠((ix b.fA c).fE)))) from(k rfl).1 (zo rfl hb)))));rintro l aP d j ⟨e,k,_⟩;exact za rfl rfl rfl (zz (ze (e rfl)));rintro l aQ d j ⟨e,_⟩
 exact zm (Gj:=true) (Bj:=(decide (((ix a.fA c).fB)≠((ix b.fA c).fB)))||(decide (((ix a.fA c).fE)≠((ix b.fA c).fE)))) rfl rfl rfl (ku (e rfl)) rfl (fun n f=>gz z0t ug (j 2 rfl) ((H.mono (s.trans o)).mono d));rintro l aR d j ⟨e,k,_⟩
 exact zm (Gj:=true) (Bj:=(decide (((ix a.fA c).fB)≠((ix b.fA c).fB)))||(decide (((ix a.fA c).fE)≠((ix b.fA c).fE)))) rfl rfl rfl (ku (k rfl)) rfl (fun n f=>jo zc3 rfl ((e rfl).1 (zo rfl f)));rintro l aS d j ⟨e,_⟩
 exact zm (Gj:=true) (Bj:=(decide (((ix a.fA c).fB)≠((ix b.fA c).fB)))||(decide (((ix a.fA c).fE)≠((ix b.fA c).fE)))) rfl rfl rfl (ku (e rfl)) rfl (fun n f=>zz (ze (j 5 rfl)));rintro l aT d j ⟨e,k,u,_⟩
 exact zm (Gj:=true) (Bj:=(decide (((ix a.fA c).fB)≠((ix b.fA c).fB)))||(decide (((ix a.fA c).fE)≠((ix b.fA c).fE)))) rfl rfl rfl (ku (u rfl)) rfl (fun n f=>wm (i:=c.toNat) zlf rfl (ja ((e rfl).1 (zo rfl f))) (zg (show l 51=(vi c) from(k rfl).1 (zo rfl f)) (O (zo n f)).1) (zy (O (zo n f))))
 rintro l aU d j ⟨e,k,_⟩;exact zm (Gj:=true) (Bj:=(decide (((ix a.fA c).fB)≠((ix b.fA c).fB)))||(decide (((ix a.fA c).fE)≠((ix b.fA c).fE)))) rfl rfl rfl (ku (k rfl)) rfl (fun n f=>gz ze0 z7b rfl ((e rfl).1 (zo rfl f)));rintro l aV d j ⟨e,k,_⟩
 exact zm (Gj:=true) (Bj:=(decide (((ix a.fA c).fB)≠((ix b.fA c).fB)))||(decide (((ix a.fA c).fE)≠((ix b.fA c).fE)))) rfl rfl rfl (ku (k rfl)) rfl (fun n f=>jo zet rfl ((e rfl).1 (zo rfl f)));rintro l Q d j ⟨e,k,_⟩
 have z:phG q (phR (tSl false (qb .i64)) ((ix a.fA c).fD)) (l 54) Q:=e rfl
 exact zm (Gj:=true) (Bj:=(decide (((ix a.fA c).fB)≠((ix b.fA c).fB)))||(decide (((ix a.fA c).fE)≠((ix b.fA c).fE)))) rfl rfl rfl (ku (k rfl)) rfl (fun n f=>z3i (T:=(tSl false (qb .i64))) (X:=([(ix a.fA c).fD]:List (List Int))) (ps:=[(0,(l 54))]) (css:=[[(l 54)]]) underlying72 zkl rfl (by simp only [List.map_cons,List.map_nil,z0a (z.1 (zo rfl f))];rfl) (kv ⟨(kz rfl (z.1 (zo rfl f))),trivial⟩) rfl rfl (by decide))
 rintro l aW d j ⟨e,_⟩;exact zm (Gj:=true) (Bj:=(decide (((ix a.fA c).fB)≠((ix b.fA c).fB)))||(decide (((ix a.fA c).fE)≠((ix b.fA c).fE)))) rfl rfl rfl (ku (e rfl)) rfl (fun n f=>gz z0t ug (j 3 rfl) ((Z.mono o).mono d));rintro l aX d j ⟨e,k,_⟩
 exact zm (Gj:=true) (Bj:=(decide (((ix a.fA c).fB)≠((ix b.fA c).fB)))||(decide (((ix a.fA c).fE)≠((ix b.fA c).fE)))) rfl rfl rfl (ku (k rfl)) rfl (fun n f=>jo zc3 rfl ((e rfl).1 (zo rfl f)));rintro l aY d j ⟨e,_⟩
 exact zm (Gj:=true) (Bj:=(decide (((ix a.fA c).fB)≠((ix b.fA c).fB)))||(decide (((ix a.fA c).fE)≠((ix b.fA c).fE)))) rfl rfl rfl (ku (e rfl)) rfl (fun n f=>zz (ze (j 5 rfl)));rintro l aZ d j ⟨e,k,u,_⟩
 exact zm (Gj:=true) (Bj:=(decide (((ix a.fA c).fB)≠((ix b.fA c).fB)))||(decide (((ix a.fA c).fE)≠((ix b.fA c).fE)))) rfl rfl rfl (ku (u rfl)) rfl (fun n f=>wm (i:=c.toNat) zlf rfl (ja ((e rfl).1 (zo rfl f))) (zg (show l 58=(vi c) from(k rfl).1 (zo rfl f)) (P (zo n f)).1) (zy (P (zo n f))))
 rintro l a0 d j ⟨e,k,_⟩;exact zm (Gj:=true) (Bj:=(decide (((ix a.fA c).fB)≠((ix b.fA c).fB)))||(decide (((ix a.fA c).fE)≠((ix b.fA c).fE)))) rfl rfl rfl (ku (k rfl)) rfl (fun n f=>gz ze0 z7b rfl ((e rfl).1 (zo rfl f)));rintro l a1 d j ⟨e,k,_⟩
 exact zm (Gj:=true) (Bj:=(decide (((ix a.fA c).fB)≠((ix b.fA c).fB)))||(decide (((ix a.fA c).fE)≠((ix b.fA c).fE)))) rfl rfl rfl (ku (k rfl)) rfl (fun n f=>jo zet rfl ((e rfl).1 (zo rfl f)));rintro l S d j ⟨e,k,_⟩
 have C:phG q (phR (tSl false (qb .i64)) ((ix b.fA c).fD)) (l 61) S:=e rfl
 exact zm (Gj:=true) (Bj:=(decide (((ix a.fA c).fB)≠((ix b.fA c).fB)))||(decide (((ix a.fA c).fE)≠((ix b.fA c).fE)))) rfl rfl rfl (ku (k rfl)) rfl (fun n f=>z3i (T:=(tSl false (qb .i64))) (X:=([(ix b.fA c).fD]:List (List Int))) (ps:=[(0,(l 61))]) (css:=[[(l 61)]]) underlying72 zkl rfl (by simp only [List.map_cons,List.map_nil,z0a (C.1 (zo rfl f))];rfl) (kv ⟨(kz rfl (C.1 (zo rfl f))),trivial⟩) rfl rfl (by decide))
 rintro l a2 d j ⟨e,k,u,d3,_⟩
 exact zm (Gj:=true) (Bj:=(decide (((ix a.fA c).fB)≠((ix b.fA c).fB)))||(decide (((ix a.fA c).fE)≠((ix b.fA c).fE)))) rfl rfl rfl (ku (u rfl)) rfl (fun n f=>xk (vs:=[(l 55),(l 62)]) q4s rfl ((by have al:=(z3w ai (zo n f));exact z4b (Sub.v (B:=(tSl false (tSl false (qb .i64)))) (uf Sub.refl (fun _=>rfl)) ((e rfl).1 (zo rfl f))) (Sub.v (B:=(tSl false (tSl false (qb .i64)))) (uf Sub.refl (fun _=>rfl)) ((k rfl).1 (zo rfl f))) al)) (fun _ _ h=>h))
 rintro l a3 d j ⟨e,k,_⟩;exact zm (Gj:=true) (Bj:=(decide (((ix a.fA c).fB)≠((ix b.fA c).fB)))||(decide (((ix a.fA c).fE)≠((ix b.fA c).fE)))) rfl rfl rfl (ku (k rfl)) rfl (fun n f=>zz (z0g (show l 63=(.bool (t.getD default)) from(e rfl).1 (zo rfl f))));rintro l a4 d j ⟨e,k,_⟩
 exact za rfl rfl rfl (zz (au (e rfl) rfl (fun hb=>(show l 64=(.bool (!(t.getD default))) from(k rfl).1 (zo rfl hb)))));intro bZ b0 b1 b2 b3 am b4 b5 b6 b7 b8 an b9 ca cb cc cd ao ce cf cg ch ci ap cj aq
 intro ck ar cl cm cn co cp cq cr cs ct cu cv cw cx cy cz cA cB cC cD cE cF cG cH cI cJ cK cL av cM U a5 a6 a7 a8 a9 ba bb bc be bf bg bh bi bj bk bl bm bn bo bp bq br bs bt bv bw bx bz bA bB bC bD bE V;obtain rfl:=Eq.symm am;obtain rfl:=Eq.symm an;obtain rfl:=Eq.symm ao
 obtain rfl:=Eq.symm ap;obtain rfl:=Eq.symm aq;obtain rfl:=Eq.symm ar;obtain rfl:=Eq.symm av;obtain rfl:=Eq.symm U;obtain rfl:=Eq.symm V;refine z8 (zu rfl m (fun m=>?_) (fun m=>?_));refine zi (zh (.bool false) (z8 (ql ?_)));replace p:=z1i m p;obtain rfl:=Option.some.inj p
 refine q8 (D:=[]) (J:=[]) (rs:=[.tmp 4]) (vs:=[(.bool false)]) (((w.trans s).trans o).trans y) rfl rfl ⟨rfl,trivial⟩ ?_;exact⟨rfl,rfl⟩;refine qa (zn (zf (vi c) ?_));obtain⟨W,m⟩:=zb m;refine zk (jh rfl rfl W) (zh (vi (c+1)) (z8 ?_))
 exact⟨dkt,y,jl,(x,c+1),Nat.lt_succ_self _,⟨rfl,trivial⟩,prm,m,trivial⟩;refine jk ?_;exact⟨dkt,o,jl,(),trivial,prm,(Option.some.inj m).symm,trivial⟩;rintro cN bF cO Y ⟨rfl,_⟩;replace p:=z2x p;refine zi (zh (.bool true) (z8 (ql ?_)));obtain rfl:=Option.some.inj p
 refine q8 (D:=[]) (J:=[]) (rs:=[.tmp 4]) (vs:=[(.bool true)]) ((w.trans s).trans Y) rfl rfl ⟨rfl,trivial⟩ ?_;exact⟨rfl,rfl⟩
end GV
end Go.Proofs.Ytnnobdkjgafdmaa
